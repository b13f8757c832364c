/- The moves of one column, at most three needles each. Condition: needles. -/
import Derived.Test.YtplabnjdhkmmkaaPF4
set_option linter.unusedSimpArgs false
set_option linter.unusedVariables false
set_option maxRecDepth 100000
set_option maxHeartbeats 4000000
namespace Go.Proofs.Ytplabnjdhkmmkaa
open Go.ChangeShapes Go.WideShapes Go.ChangeAt Go.RowKit
def nextOf (f t : Int) : Int := if 3 < t - f then f + 3 else if t - f < -3 then f - 3 else t
def stepsF : Nat → Int → Int → List MoveM
  | 0, _, _ => []
  | n + 1, f, t => if f = t then [] else ⟨f, nextOf f t⟩ :: stepsF n (nextOf f t) t
def stepsM (f t : Int) : List MoveM := stepsF 24 f t
theorem stepsF_done (n : Nat) (t : Int) : stepsF n t t = [] := by cases n <;> simp [stepsF]
theorem stepsF_go {n : Nat} {f t : Int} (h : f ≠ t) : stepsF (n + 1) f t = ⟨f, nextOf f t⟩ :: stepsF n (nextOf f t) t := by simp [stepsF, h]
theorem nextOf_in {f t : Int} (hf : 0 ≤ f ∧ f ≤ 23) (ht : 0 ≤ t ∧ t ≤ 23) : 0 ≤ nextOf f t ∧ nextOf f t ≤ 23 := by
  unfold nextOf; split <;> (try split) <;> omega
theorem nextOf_near {n : Nat} {f t : Int} (h1 : t - f ≤ n + 1 ∧ f - t ≤ n + 1) : t - nextOf f t ≤ n ∧ nextOf f t - t ≤ n := by
  unfold nextOf; split <;> (try split) <;> omega
theorem stepsF_length : ∀ (n : Nat) (f t : Int), (stepsF n f t).length ≤ n
  | 0, _, _ => by simp [stepsF]
  | n + 1, f, t => by
    unfold stepsF
    split
    · simp
    · have := stepsF_length n (nextOf f t) t
      simp
      omega
theorem steps_any (w : World) (base : Nat) (v : Value) (xs : List MoveM) (f t : Int) (hf : 0 ≤ f ∧ f ≤ 23) (ht : 0 ≤ t ∧ t ≤ 23) (hown : OwnMoves w base v xs) (hb : base ≤ w.heap.size) (hl : xs.length ≤ 1000000) :
    Calls Try.prog 32 #[v, .int .i64 f, .int .i64 t] w fun e w' => ∃ v', e = .returned v' ∧ OwnMoves w' base v' (xs ++ stepsM f t) ∧ Chg (fun k => base ≤ k) w w' := by
  have HO0 := Lib.hid hown
  have HL := Lib.hid hl
  clear hown hl
  go_enter Try.func32, Try.ntmps32
  go_wp2
  go_loopw [0, 1, 7] (fun v q _ wr => ∃ (n : Nat) (g : Int) (ys : List MoveM), q = .int .i64 g ∧ 0 ≤ g ∧ g ≤ 23 ∧ n ≤ 24 ∧ t - g ≤ n ∧ g - t ≤ n ∧ Hid (ys ++ stepsF n g t = stepsM f t) ∧ Hid (ys.length + n ≤ 24) ∧ Hid (OwnMoves wr base v (xs ++ ys)) ∧ Hid (Chg (fun k => base ≤ k) w wr)) (fun _ q _ _ => (t - intOf q).natAbs)
  case atStart => exact ⟨24, f, [], rfl, hf.1, hf.2, by omega, by omega, by omega, rfl, by simp [Hid], by simpa [Hid] using HO0, Chg.refl _ _⟩
  case round =>
    obtain ⟨n, g, ys, rfl, hg0, hg1, hn, hd1, hd2, he, hyl, ho, hg⟩ := hrel
    by_cases hgt : g = t
    · subst hgt
      have hz : (g != g) = false := by simp
      go_wp2
      go_ret
      refine ⟨_, rfl, ?_, hg.out⟩
      have := he.out
      rw [stepsF_done, List.append_nil] at this
      rw [← this]
      exact ho.out
    · have hz : (g != t) = true := by simpa using hgt
      obtain ⟨n, rfl⟩ : ∃ m, n = m + 1 := ⟨n - 1, by omega⟩
      have HE := Lib.hid ((stepsF_go (n := n) hgt) ▸ he.out)
      have hnear := nextOf_near (n := n) (f := g) (t := t) ⟨by omega, by omega⟩
      have hin := nextOf_in ⟨hg0, hg1⟩ ht
      have hsz := hg.out.size
      have hc : 3 < t - g ∨ (0 < t - g ∧ t - g ≤ 3) ∨ (-3 < t - g ∧ t - g < 0) ∨ t - g ≤ -3 := by omega
      have HLL := Lib.hid (show (xs ++ ys).length ≤ 1099511627775 by rw [List.length_append]; have := HL.out; have := hyl.out; omega)
      have hyl' := hyl.out
      have HYL := Lib.hid (show ys.length + 1 + n ≤ 24 by omega)
      clear hyl hyl' he
      have HG := Lib.hid hgt
      clear hgt
      rcases hc with hc | ⟨hc, hc2⟩ | ⟨hc, hc2⟩ | hc
      · have hnx : nextOf g t = g + 3 := by unfold nextOf; split <;> (try split) <;> omega
        rw [hnx] at hnear hin HE
        clear hnx
        have HY := Lib.hid (show (MoveM.mk g (g + 3)).ok by unfold MoveM.ok I64; simp only []; omega)
        have HX := Lib.hid (show (g + 3 : Int) = g + 3 by omega)
        go_wp2_with (first | (at_builtin; refine wp_append1Moves rfl _ _ rfl base _ (xs ++ ys) rfl (ho.out.alloc _) wr.heap.size (MoveM.mk g (g + 3)) rfl (heap_new_at rfl) HY.out HLL.out ?_ ?_; (first | omega | (simp; omega)); intro v' w3 ho1 _ hg1; have HO := Lib.hid ho1; have HG1 := Lib.hid hg1; clear ho1 hg1))
        go_roundw
        case rel =>
          refine ⟨n, _, ys ++ [MoveM.mk g (g + 3)], rfl, by omega, by omega, by omega, by omega, by omega, ?_, ?_, ?_, Chg.trans (hg.out.alloc _) HG1.out⟩
          · have := HE.out
            rw [HX.out]
            simpa [Hid] using this
          · have := HYL.out
            simp [Hid]
            omega
          · rw [← List.append_assoc]
            exact HO.out
        case measure => simp [intOf]; omega
      · have hnx : nextOf g t = t := by unfold nextOf; split <;> (try split) <;> omega
        rw [hnx] at hnear hin HE
        clear hnx
        have HY := Lib.hid (show (MoveM.mk g (g + (t - g))).ok by unfold MoveM.ok I64; simp only []; omega)
        have HX := Lib.hid (show (g + (t - g) : Int) = t by omega)
        go_wp2_with (first | (at_builtin; refine wp_append1Moves rfl _ _ rfl base _ (xs ++ ys) rfl (ho.out.alloc _) wr.heap.size (MoveM.mk g (g + (t - g))) rfl (heap_new_at rfl) HY.out HLL.out ?_ ?_; (first | omega | (simp; omega)); intro v' w3 ho1 _ hg1; have HO := Lib.hid ho1; have HG1 := Lib.hid hg1; clear ho1 hg1))
        go_roundw
        case rel =>
          refine ⟨n, _, ys ++ [MoveM.mk g (g + (t - g))], rfl, by omega, by omega, by omega, by omega, by omega, ?_, ?_, ?_, Chg.trans (hg.out.alloc _) HG1.out⟩
          · have := HE.out
            rw [HX.out]
            simpa [Hid] using this
          · have := HYL.out
            simp [Hid]
            omega
          · rw [← List.append_assoc]
            exact HO.out
        case measure => simp [intOf]; omega
      · have hnx : nextOf g t = t := by unfold nextOf; split <;> (try split) <;> omega
        rw [hnx] at hnear hin HE
        clear hnx
        have HY := Lib.hid (show (MoveM.mk g (g + (t - g))).ok by unfold MoveM.ok I64; simp only []; omega)
        have HX := Lib.hid (show (g + (t - g) : Int) = t by omega)
        go_wp2_with (first | (at_builtin; refine wp_append1Moves rfl _ _ rfl base _ (xs ++ ys) rfl (ho.out.alloc _) wr.heap.size (MoveM.mk g (g + (t - g))) rfl (heap_new_at rfl) HY.out HLL.out ?_ ?_; (first | omega | (simp; omega)); intro v' w3 ho1 _ hg1; have HO := Lib.hid ho1; have HG1 := Lib.hid hg1; clear ho1 hg1))
        go_roundw
        case rel =>
          refine ⟨n, _, ys ++ [MoveM.mk g (g + (t - g))], rfl, by omega, by omega, by omega, by omega, by omega, ?_, ?_, ?_, Chg.trans (hg.out.alloc _) HG1.out⟩
          · have := HE.out
            rw [HX.out]
            simpa [Hid] using this
          · have := HYL.out
            simp [Hid]
            omega
          · rw [← List.append_assoc]
            exact HO.out
        case measure => simp [intOf]; omega
      · have hnx : nextOf g t = g - 3 := by unfold nextOf; split <;> (try split) <;> omega
        rw [hnx] at hnear hin HE
        clear hnx
        have HY := Lib.hid (show (MoveM.mk g (g + -3)).ok by unfold MoveM.ok I64; simp only []; omega)
        have HX := Lib.hid (show (g + -3 : Int) = g - 3 by omega)
        go_wp2_with (first | (at_builtin; refine wp_append1Moves rfl _ _ rfl base _ (xs ++ ys) rfl (ho.out.alloc _) wr.heap.size (MoveM.mk g (g + -3)) rfl (heap_new_at rfl) HY.out HLL.out ?_ ?_; (first | omega | (simp; omega)); intro v' w3 ho1 _ hg1; have HO := Lib.hid ho1; have HG1 := Lib.hid hg1; clear ho1 hg1))
        go_roundw
        case rel =>
          refine ⟨n, _, ys ++ [MoveM.mk g (g + -3)], rfl, by omega, by omega, by omega, by omega, by omega, ?_, ?_, ?_, Chg.trans (hg.out.alloc _) HG1.out⟩
          · have := HE.out
            rw [HX.out]
            simpa [Hid] using this
          · have := HYL.out
            simp [Hid]
            omega
          · rw [← List.append_assoc]
            exact HO.out
        case measure => simp [intOf]; omega
theorem l00Min_l (a b : Int) (w : World) (h : a < b) :
    Calls Try.prog 57 #[.int .i64 a, .int .i64 b] w fun e w' => e = .returned (.int .i64 a) ∧ w = w' := by
  go_enter Try.func57, Try.ntmps57
  go_wp2
  go_ret
  exact ⟨rfl, rfl⟩
theorem l00Min_r (a b : Int) (w : World) (h : b ≤ a) :
    Calls Try.prog 57 #[.int .i64 a, .int .i64 b] w fun e w' => e = .returned (.int .i64 b) ∧ w = w' := by
  go_enter Try.func57, Try.ntmps57
  go_wp2
  go_ret
  exact ⟨rfl, rfl⟩
end Go.Proofs.Ytplabnjdhkmmkaa
