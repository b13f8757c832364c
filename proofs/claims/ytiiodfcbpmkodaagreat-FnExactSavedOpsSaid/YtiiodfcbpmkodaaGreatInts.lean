/- Contracts of the laws' own helpers on slices of int64: equal, marked, held, copied. No condition but room for the numbers. -/
import Derived.Test.YtiiodfcbpmkodaaGreatMem
set_option linter.unusedSimpArgs false
set_option linter.unusedVariables false
namespace Go.Proofs.YtiiodfcbpmkodaaGreat
open Go.ChangeShapes Go.WideShapes Go.ChangeAt Go.RowKit
theorem eqInt64S_same (w : World) (S T : Nat → Prop) (v u : Value) (xs : List Int) (h : Ints w S v xs) (h2 : Ints w T u xs) :
    Calls Tryz.prog 16 #[v, u] w fun e w' => e = .returned (.bool true) ∧ Drawn w w' := by
  obtain ⟨A, c, rfl, hlc, hcm, -, hr, hnn⟩ := h
  obtain ⟨A2, c2, rfl, hlc2, hcm2, -, hr2, -⟩ := h2
  have hz : ((xs.length : Int) != xs.length) = false := by simp
  go_enter Tryz.func16, Tryz.ntmps16
  go_wp2
  go_loopw [5] (fun i wr => ∃ j n : Nat, j ≤ xs.length ∧ i = .int .i64 j ∧ wr = w.drewN n) (fun i _ => xs.length - (intOf i).toNat)
  case atStart => exact ⟨0, 0, by omega, rfl, rfl⟩
  case round =>
    obtain ⟨j, n, hj, rfl, rfl⟩ := hrel
    by_cases hlt : j < xs.length
    · obtain ⟨b, o, rfl, -, hbl, hc⟩ := hr (by omega)
      obtain ⟨b2, o2, rfl, -, hbl2, hc2⟩ := hr2 (by omega)
      have hcj := (hc j hlt).1
      have hcj2 := (hc2 j hlt).1
      have he : ((xs[j] : Int) != xs[j]) = false := by simp
      clear hc hc2 hr hr2
      go_wp2
      go_quiet (fail)
      go_wp2
      go_roundw
      case rel => exact ⟨j + 1, _, by omega, by go_num, rfl⟩
      case measure => simp [intOf]; omega
    · go_wp2
      go_ret
      exact ⟨rfl, _, rfl⟩
theorem heldInt64S_held (w : World) (S : Nat → Prop) (v : Value) (xs : List Int) (k : Int) (hk : 0 ≤ k) (hb : k + xs.length ≤ 4611686018427387904)
    (h : Ints w S v xs) (hx : ∀ j (h : j < xs.length), xs[j] = k + j) :
    Calls Tryz.prog 18 #[v, .int .i64 k] w fun e w' => e = .returned (.int .i64 (k + xs.length)) ∧ w = w' := by
  obtain ⟨A, c, rfl, hlc, hcm, -, hr, hnn⟩ := h
  go_enter Tryz.func18, Tryz.ntmps18
  go_wp2
  go_loop [1, 5] (fun q i => ∃ j : Nat, j ≤ xs.length ∧ i = .int .i64 j ∧ q = .int .i64 (k + j)) (fun _ i => xs.length - (intOf i).toNat)
  case atStart => exact ⟨0, by omega, rfl, by simp⟩
  case round =>
    obtain ⟨j, hj, rfl, rfl⟩ := hrel
    by_cases hlt : j < xs.length
    · obtain ⟨b, o, rfl, -, hbl, hc⟩ := hr (by omega)
      have hcj := (hc j hlt).1
      have he : ((xs[j] : Int) != k + j) = false := by simp [hx j hlt]
      clear hc hr hx
      go_wp2
      go_round
      case rel => exact ⟨j + 1, by omega, by go_num, by simp only [Value.int.injEq, true_and]; omega⟩
      case measure => simp [intOf]; omega
    · obtain rfl : j = xs.length := by omega
      go_wp2
      go_ret
      exact ⟨rfl, rfl⟩
def marks (k : Int) (n : Nat) : List Int := (List.range n).map fun i : Nat => (k + i : Int)
theorem marks_length (k : Int) (n : Nat) : (marks k n).length = n := by simp [marks]
theorem marks_get (k : Int) (n : Nat) (j : Nat) (h : j < (marks k n).length) : (marks k n)[j] = k + j := by simp [marks]
theorem marks_mem {k : Int} {n : Nat} (hk : 0 ≤ k) (hb : k + n ≤ 4611686018427387904) : ∀ x ∈ marks k n, I64 x := by
  intro x hx
  obtain ⟨i, hi, rfl⟩ := List.mem_map.1 hx
  have := List.mem_range.1 hi
  unfold I64
  omega
theorem markInt64S_marks (w : World) (S : Nat → Prop) (v : Value) (xs : List Int) (k : Int) (hk : 0 ≤ k) (hb : k + xs.length ≤ 4611686018427387904)
    (h : Ints w S v xs) :
    Calls Tryz.prog 17 #[v, .int .i64 k] w fun e w' => e = .returned (.int .i64 (k + xs.length)) ∧ Chg S w w' ∧ Ints w' S v (marks k xs.length) := by
  obtain ⟨A, c, rfl, hlc, hcm, -, hr, hnn⟩ := h
  have hm := marks_mem hk hb
  by_cases hz : 0 < xs.length
  · obtain ⟨b, o, rfl, hS, hbl, hc⟩ := hr hz
    have Hm := Lib.hid hm
    have Hc := Lib.hid hc
    have HS := Lib.hid hS
    clear hr hm hc hS
    go_enter Tryz.func17, Tryz.ntmps17
    go_wp2
    go_loopw [1, 5] (fun q i wr => ∃ j : Nat, j ≤ xs.length ∧ i = .int .i64 j ∧ q = .int .i64 (k + j) ∧ Hid (Chg S w wr) ∧
      Hid (∀ t (ht : t < xs.length), wr.cell? ⟨b, o + t, none⟩ = some (.int .i64 (if t < j then k + t else xs[t])) ∧ wr.frozen? ⟨b, o + t, none⟩ = false)) (fun _ i _ => xs.length - (intOf i).toNat)
    case atStart => exact ⟨0, by omega, rfl, by simp, Chg.refl _ _, fun t ht => by simpa using Hc.out t ht⟩
    case round =>
      obtain ⟨j, hj, rfl, rfl, hg, hcs⟩ := hrel
      by_cases hlt : j < xs.length
      · have hcj := (hcs.out j hlt).1
        have hfj := (hcs.out j hlt).2
        rw [if_neg (by omega)] at hcj
        go_wp2
        go_roundw
        case rel =>
          refine ⟨j + 1, by omega, by go_num, by simp only [Value.int.injEq, true_and]; omega, Chg.setCell hg (.inl HS.out) _, fun t ht => ?_⟩
          obtain ⟨h1, h2⟩ := hcs.out t ht
          by_cases e : t = j
          · subst e
            rw [if_pos (by omega)]
            exact ⟨World.cell?_setCell_same _ _ _ hcj, by simpa using hfj⟩
          · rw [World.cell?_setCell_other _ _ _ _ (fun h => e (by injection h with _ h _; omega))]
            refine ⟨?_, by simpa using h2⟩
            rw [h1]
            by_cases ht2 : t < j
            · rw [if_pos ht2, if_pos (by omega)]
            · rw [if_neg ht2, if_neg (by omega)]
        case measure => simp [intOf]; omega
      · obtain rfl : j = xs.length := by omega
        go_wp2
        go_ret
        refine ⟨rfl, hg, ⟨_, c, by rw [marks_length], by rw [marks_length]; exact hlc, hcm, Hm.out, fun _ => ⟨b, o, rfl, HS.out, Nat.lt_of_lt_of_le hbl hg.out.size, fun t ht => ?_⟩, by simp⟩⟩
        have ht' : t < xs.length := by rwa [marks_length] at ht
        obtain ⟨h1, h2⟩ := hcs.out t ht'
        rw [if_pos ht'] at h1
        exact ⟨by rw [h1, marks_get], h2⟩
  · have hn : xs = [] := List.eq_nil_of_length_eq_zero (by omega)
    subst hn
    clear hr
    go_enter Tryz.func17, Tryz.ntmps17
    go_wp2
    go_loop [1, 5] (fun q i => i = .int .i64 0 ∧ q = .int .i64 k) (fun _ _ => 0)
    case atStart => exact ⟨rfl, rfl⟩
    case round =>
      obtain ⟨rfl, rfl⟩ := hrel
      go_wp2
      go_ret
      refine ⟨by simp, Chg.refl _ _, ?_⟩
      exact Ints.nil _ _ _ _ hcm hnn
/-- a slice of int64 that bears the marks from k on -/
def MInts (w : World) (S : Nat → Prop) (v : Value) (xs : List Int) (k : Int) : Prop := Ints w S v (marks k xs.length)
theorem MInts.keep {S T : Nat → Prop} {w w' : World} {v : Value} {xs : List Int} {k : Int} (h : MInts w S v xs k) (g : Chg T w w') (hd : ∀ b, b < w.heap.size → S b → ¬ T b) : MInts w' S v xs k := Ints.keep h g hd
theorem MInts.up {S : Nat → Prop} {w w' : World} {v : Value} {xs : List Int} {k : Int} (h : MInts w S v xs k) (g : Up w w') : MInts w' S v xs k := Ints.up h g
theorem Ints.shape {w : World} {S : Nat → Prop} {v : Value} {xs : List Int} (h : Ints w S v xs) : ∃ A c, v = .slice A xs.length c ∧ xs.length ≤ c ∧ c ≤ 9223372036854775807 ∧ (A = none → c = 0) :=
  let ⟨A, c, h1, h2, h3, _, _, h4⟩ := h; ⟨A, c, h1, h2, h3, h4⟩
def cntInts (xs : List Int) : Nat := xs.length
theorem markInts (w : World) (S : Nat → Prop) (v : Value) (xs : List Int) (k : Int) (hk : 0 ≤ k) (hb : k + cntInts xs ≤ 4611686018427387904) (h : Ints w S v xs) :
    Calls Tryz.prog 17 #[v, .int .i64 k] w fun e w' => e = .returned (.int .i64 (k + cntInts xs)) ∧ Chg S w w' ∧ MInts w' S v xs k :=
  markInt64S_marks w S v xs k hk hb h
theorem heldInts (w : World) (S : Nat → Prop) (v : Value) (xs : List Int) (k : Int) (hk : 0 ≤ k) (hb : k + cntInts xs ≤ 4611686018427387904) (h : MInts w S v xs k) :
    Calls Tryz.prog 18 #[v, .int .i64 k] w fun e w' => e = .returned (.int .i64 (k + cntInts xs)) ∧ Up w w' := by
  have h2 := heldInt64S_held w S v (marks k xs.length) k hk (by rw [marks_length]; exact hb) h (fun j hj => marks_get _ _ _ hj)
  rw [marks_length] at h2
  exact h2.mono fun e w' ⟨he, hw⟩ => ⟨he, hw ▸ Chg.refl _ _⟩
theorem eqInts (w : World) (S T : Nat → Prop) (v u : Value) (xs : List Int) (h : Ints w S v xs) (h2 : Ints w T u xs) :
    Calls Tryz.prog 16 #[v, u] w fun e w' => e = .returned (.bool true) ∧ Up w w' := (eqInt64S_same w S T v u xs h h2).mono fun _ _ ⟨he, hw⟩ => ⟨he, hw.up⟩
theorem info2 : (Tryz.prog.info? 2).map (fun i => (i.zero, i.size, i.bytes)) = some (some (.int .i64 0), 1, 8) := by kernel_rfl
end Go.Proofs.YtiiodfcbpmkodaaGreat
