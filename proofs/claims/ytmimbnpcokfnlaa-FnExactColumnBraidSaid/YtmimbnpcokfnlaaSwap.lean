/- Contracts of the letters with which two blocks of strands change places. Conditions: few strands. -/
import Derived.Test.YtmimbnpcokfnlaaOwn
namespace Go.Proofs.Ytmimbnpcokfnlaa
open Go.ChangeShapes Go.WideShapes Go.ChangeAt Go.RowKit
/-- the letters of round t, the first m of them -/
def swapRow (p s : Int) (a t m : Nat) : List Int := (List.range m).map fun i : Nat => s * (p + t + ((a : Int) - 1 - i) + 1)
/-- the letters of b rounds -/
def swapTo (p s : Int) (a : Nat) : Nat → List Int
  | 0 => []
  | t + 1 => swapTo p s a t ++ swapRow p s a t a
theorem swapRow_length (p s : Int) (a t m : Nat) : (swapRow p s a t m).length = m := by simp [swapRow]
theorem swapRow_succ (p s : Int) (a t m : Nat) : swapRow p s a t (m + 1) = swapRow p s a t m ++ [s * (p + t + ((a : Int) - 1 - m) + 1)] := by simp [swapRow, List.range_succ]
theorem swapTo_length (p s : Int) (a : Nat) : ∀ t, (swapTo p s a t).length = t * a
  | 0 => by simp [swapTo]
  | t + 1 => by simp [swapTo, swapTo_length p s a t, swapRow_length, Nat.add_mul]
theorem ret_slice {v u : Value} (h : v = u) : Ending.returned v = .returned u := by rw [h]
set_option maxHeartbeats 1000000 in
theorem blockLetters_any (w : World) (p s : Int) (a b : Nat) (hp : 0 ≤ p ∧ p ≤ 1000000) (hs : s = 1 ∨ s = -1) (ha : a ≤ 1000) (hb : b ≤ 1000) :
    Calls Try.prog 146 #[.int .i64 p, .int .i64 a, .int .i64 b, .int .i64 s] w fun e w' => ∃ v, e = .returned v ∧ Ints w' (New w.heap.size w'.heap.size) v (swapTo p s a b) ∧ Up w w' := by
  obtain ⟨hp0, hp1⟩ := hp
  have HS := Lib.hid hs
  clear hs
  go_enter Try.func146, Try.ntmps146
  go_wp2
  go_loopw [9, 10, 11, 14] (fun v _ _ i wr => ∃ t : Nat, t ≤ b ∧ i = .int .i64 t ∧ Hid (OwnI wr w.heap.size v (swapTo p s a t)) ∧ Hid (Up w wr)) (fun _ _ _ i _ => b - (intOf i).toNat)
  case atStart => exact ⟨0, by omega, rfl, OwnI.made w _ (Nat.le_refl _), (Chg.refl _ _).alloc _⟩
  case round =>
    obtain ⟨t, ht, rfl, ho, hg⟩ := hrel
    by_cases hlt : t < b
    · obtain ⟨wo, rfl⟩ : ∃ wo : World, wo = wr := ⟨_, rfl⟩
      go_wp2
      go_loopw [9, 11] (fun v k wr => ∃ m : Nat, m ≤ a ∧ k = .int .i64 ((a : Int) - 1 - m) ∧ Hid (OwnI wr w.heap.size v (swapTo p s a t ++ swapRow p s a t m)) ∧ Hid (Up w wr)) (fun _ k _ => (intOf k + 1).toNat)
      case atStart => exact ⟨0, by omega, by simp, by simpa [swapRow, Hid] using ho, hg⟩
      case round =>
        obtain ⟨m, hm, rfl, ho2, hg2⟩ := hrel
        by_cases hlt2 : m < a
        · have hx : s * (p + t + ((a : Int) - 1 - m) + 1) ≤ 1010000 ∧ -1010000 ≤ s * (p + t + ((a : Int) - 1 - m) + 1) := by
            rcases HS.out with rfl | rfl <;> omega
          have hw64 : wrap64 (s * (p + t + ((a : Int) - 1 - m) + 1)) = s * (p + t + ((a : Int) - 1 - m) + 1) := by
            have := hx; unfold wrap64; omega
          have HI := Lib.hid (show I64 (s * (p + t + ((a : Int) - 1 - m) + 1)) by unfold I64; omega)
          have HL := Lib.hid (show (swapTo p s a t ++ swapRow p s a t m).length ≤ 1099511627776 by
            rw [List.length_append, swapTo_length, swapRow_length]
            have : t * a ≤ 1000 * 1000 := Nat.mul_le_mul (by omega) ha
            omega)
          clear hx
          have hsz := hg2.out.size
          have hge : (0 : Int) ≤ (a : Int) - 1 - m := by omega
          go_wp2_with (first | (at_builtin; refine wp_append_int rfl _ _ rfl w.heap.size _ (swapTo p s a t ++ swapRow p s a t m) rfl (ho2.out.alloc _) _ (s * (p + t + ((a : Int) - 1 - m) + 1)) rfl (cell_new _ _ _ _) HI.out HL.out ?_ ?_; (simp; omega); intro v' w1 ho1 _ hg1; have HO := Lib.hid ho1; have HG := Lib.hid hg1; clear ho1 hg1))
          go_roundw
          case rel => exact ⟨m + 1, by omega, by simp only [Value.int.injEq, true_and]; omega, by rw [swapRow_succ, ← List.append_assoc]; exact HO.out, Chg.new (hg2.out.alloc _) HG.out (fun i hi => by omega)⟩
          case measure => simp [intOf]; omega
        · obtain rfl : m = a := by omega
          have hge : ¬ (0 : Int) ≤ (m : Int) - 1 - m := by omega
          go_wp2
          go_roundw
          case rel => exact ⟨t + 1, by omega, by go_num, ho2, hg2⟩
          case measure => simp [intOf]; omega
    · obtain rfl : t = b := by omega
      go_wp2
      go_ret
      exact ⟨_, rfl, ho.out.ints, hg.out⟩
set_option maxHeartbeats 1000000 in
theorem l03Swap_any (w : World) (p s : Int) (a b : Nat) (hp : 0 ≤ p ∧ p ≤ 1000000) (hs : s = 1 ∨ s = -1) (ha : a ≤ 1000) (hb : b ≤ 1000) :
    Calls Try.prog 139 #[.int .i64 p, .int .i64 a, .int .i64 b, .int .i64 s] w fun e w' => ∃ v, e = .returned v ∧ Ints w' (New w.heap.size w'.heap.size) v (swapTo p s a b) ∧ Up w w' := by
  obtain ⟨hp0, hp1⟩ := hp
  have HS := Lib.hid hs
  clear hs
  go_enter Try.func139, Try.ntmps139
  go_wp2
  go_loopw [9, 10, 11] (fun v i _ wr => ∃ t : Nat, t ≤ b ∧ i = .int .i64 t ∧ Hid (OwnI wr w.heap.size v (swapTo p s a t)) ∧ Hid (Up w wr)) (fun _ i _ _ => b - (intOf i).toNat)
  case atStart => exact ⟨0, by omega, rfl, OwnI.made w _ (Nat.le_refl _), (Chg.refl _ _).alloc _⟩
  case round =>
    obtain ⟨t, ht, rfl, ho, hg⟩ := hrel
    by_cases hlt : t < b
    · obtain ⟨wo, rfl⟩ : ∃ wo : World, wo = wr := ⟨_, rfl⟩
      go_wp2
      go_loopw [9, 11] (fun v k wr => ∃ m : Nat, m ≤ a ∧ k = .int .i64 ((a : Int) - 1 - m) ∧ Hid (OwnI wr w.heap.size v (swapTo p s a t ++ swapRow p s a t m)) ∧ Hid (Up w wr)) (fun _ k _ => (intOf k + 1).toNat)
      case atStart => exact ⟨0, by omega, by simp, by simpa [swapRow, Hid] using ho, hg⟩
      case round =>
        obtain ⟨m, hm, rfl, ho2, hg2⟩ := hrel
        by_cases hlt2 : m < a
        · have hx : s * (p + t + ((a : Int) - 1 - m) + 1) ≤ 1010000 ∧ -1010000 ≤ s * (p + t + ((a : Int) - 1 - m) + 1) := by
            rcases HS.out with rfl | rfl <;> omega
          have hw64 : wrap64 (s * (p + t + ((a : Int) - 1 - m) + 1)) = s * (p + t + ((a : Int) - 1 - m) + 1) := by
            have := hx; unfold wrap64; omega
          have HI := Lib.hid (show I64 (s * (p + t + ((a : Int) - 1 - m) + 1)) by unfold I64; omega)
          have HL := Lib.hid (show (swapTo p s a t ++ swapRow p s a t m).length ≤ 1099511627776 by
            rw [List.length_append, swapTo_length, swapRow_length]
            have : t * a ≤ 1000 * 1000 := Nat.mul_le_mul (by omega) ha
            omega)
          clear hx
          have hsz := hg2.out.size
          have hge : (0 : Int) ≤ (a : Int) - 1 - m := by omega
          go_wp2_with (first | (at_builtin; refine wp_append_int rfl _ _ rfl w.heap.size _ (swapTo p s a t ++ swapRow p s a t m) rfl (ho2.out.alloc _) _ (s * (p + t + ((a : Int) - 1 - m) + 1)) rfl (cell_new _ _ _ _) HI.out HL.out ?_ ?_; (simp; omega); intro v' w1 ho1 _ hg1; have HO := Lib.hid ho1; have HG := Lib.hid hg1; clear ho1 hg1))
          go_roundw
          case rel => exact ⟨m + 1, by omega, by simp only [Value.int.injEq, true_and]; omega, by rw [swapRow_succ, ← List.append_assoc]; exact HO.out, Chg.new (hg2.out.alloc _) HG.out (fun i hi => by omega)⟩
          case measure => simp [intOf]; omega
        · obtain rfl : m = a := by omega
          have hge : ¬ (0 : Int) ≤ (m : Int) - 1 - m := by omega
          go_wp2
          go_roundw
          case rel => exact ⟨t + 1, by omega, by go_num, ho2, hg2⟩
          case measure => simp [intOf]; omega
    · obtain rfl : t = b := by omega
      go_wp2
      go_ret
      exact ⟨_, rfl, ho.out.ints, hg.out⟩
end Go.Proofs.Ytmimbnpcokfnlaa
