/- Contracts of the laws' own helpers on slices of int64: equal, marked, held, copied. No condition but room for the numbers. -/
import Derived.Test.YtjgdcjhmfbefdaaMem
namespace Go.Proofs.Ytjgdcjhmfbefdaa
open Go.ChangeShapes Go.WideShapes Go.ChangeAt Go.RowKit

theorem eqInt64S_same (w : World) (S T : Nat → Prop) (v u : Value) (xs : List Int) (h : Ints w S v xs) (h2 : Ints w T u xs) :
    Calls Try.prog 82 #[v, u] w fun e w' => e = .returned (.bool true) ∧ Drawn w w' := by
  obtain ⟨A, c, rfl, hlc, hcm, -, hr, hnn⟩ := h
  obtain ⟨A2, c2, rfl, hlc2, hcm2, -, hr2, -⟩ := h2
  have hz : ((xs.length : Int) != xs.length) = false := by simp
  go_enter Try.func82, Try.ntmps82
  go_wp2
  go_loopw [5] (fun i wr => ∃ j n : Nat, j ≤ xs.length ∧ i = .int .i64 j ∧ wr = w.drewN n) (fun i _ => xs.length - (intOf i).toNat)
  case atStart => exact ⟨0, 0, by omega, rfl, rfl⟩
  case round =>
    obtain ⟨j, n, hj, rfl, rfl⟩ := hrel
    by_cases hlt : j < xs.length
    · obtain ⟨b, o, rfl, -, hbl, hc⟩ := hr (by omega)
      obtain ⟨b2, o2, rfl, -, hbl2, hc2⟩ := hr2 (by omega)
      have hcj := (hc j hlt).1
      have hcj2 := (hc2 j hlt).1
      have he : ((xs[j] : Int) != xs[j]) = false := by simp
      clear hc hc2 hr hr2
      go_wp2
      go_quiet (fail)
      go_wp2
      go_roundw
      case rel => exact ⟨j + 1, _, by omega, by go_num, rfl⟩
      case measure => simp [intOf]; omega
    · go_wp2
      go_ret
      exact ⟨rfl, _, rfl⟩

theorem heldInt64S_held (w : World) (S : Nat → Prop) (v : Value) (xs : List Int) (k : Int) (hk : 0 ≤ k) (hb : k + xs.length ≤ 4611686018427387904)
    (h : Ints w S v xs) (hx : ∀ j (h : j < xs.length), xs[j] = k + j) :
    Calls Try.prog 179 #[v, .int .i64 k] w fun e w' => e = .returned (.int .i64 (k + xs.length)) ∧ w = w' := by
  obtain ⟨A, c, rfl, hlc, hcm, -, hr, hnn⟩ := h
  go_enter Try.func179, Try.ntmps179
  go_wp2
  go_loop [1, 5] (fun q i => ∃ j : Nat, j ≤ xs.length ∧ i = .int .i64 j ∧ q = .int .i64 (k + j)) (fun _ i => xs.length - (intOf i).toNat)
  case atStart => exact ⟨0, by omega, rfl, by simp⟩
  case round =>
    obtain ⟨j, hj, rfl, rfl⟩ := hrel
    by_cases hlt : j < xs.length
    · obtain ⟨b, o, rfl, -, hbl, hc⟩ := hr (by omega)
      have hcj := (hc j hlt).1
      have he : ((xs[j] : Int) != k + j) = false := by simp [hx j hlt]
      clear hc hr hx
      go_wp2
      go_round
      case rel => exact ⟨j + 1, by omega, by go_num, by simp only [Value.int.injEq, true_and]; omega⟩
      case measure => simp [intOf]; omega
    · obtain rfl : j = xs.length := by omega
      go_wp2
      go_ret
      exact ⟨rfl, rfl⟩

def marks (k : Int) (n : Nat) : List Int := (List.range n).map fun i : Nat => (k + i : Int)
theorem marks_length (k : Int) (n : Nat) : (marks k n).length = n := by simp [marks]
theorem marks_get (k : Int) (n : Nat) (j : Nat) (h : j < (marks k n).length) : (marks k n)[j] = k + j := by simp [marks]
theorem marks_mem {k : Int} {n : Nat} (hk : 0 ≤ k) (hb : k + n ≤ 4611686018427387904) : ∀ x ∈ marks k n, I64 x := by
  intro x hx
  obtain ⟨i, hi, rfl⟩ := List.mem_map.1 hx
  have := List.mem_range.1 hi
  unfold I64
  omega

theorem markInt64S_marks (w : World) (S : Nat → Prop) (v : Value) (xs : List Int) (k : Int) (hk : 0 ≤ k) (hb : k + xs.length ≤ 4611686018427387904)
    (h : Ints w S v xs) :
    Calls Try.prog 91 #[v, .int .i64 k] w fun e w' => e = .returned (.int .i64 (k + xs.length)) ∧ Chg S w w' ∧ Ints w' S v (marks k xs.length) := by
  obtain ⟨A, c, rfl, hlc, hcm, -, hr, hnn⟩ := h
  have hm := marks_mem hk hb
  by_cases hz : 0 < xs.length
  · obtain ⟨b, o, rfl, hS, hbl, hc⟩ := hr hz
    have Hm := Lib.hid hm
    have Hc := Lib.hid hc
    have HS := Lib.hid hS
    clear hr hm hc hS
    go_enter Try.func91, Try.ntmps91
    go_wp2
    go_loopw [1, 5] (fun q i wr => ∃ j : Nat, j ≤ xs.length ∧ i = .int .i64 j ∧ q = .int .i64 (k + j) ∧ Hid (Chg S w wr) ∧
      Hid (∀ t (ht : t < xs.length), wr.cell? ⟨b, o + t, none⟩ = some (.int .i64 (if t < j then k + t else xs[t])) ∧ wr.frozen? ⟨b, o + t, none⟩ = false)) (fun _ i _ => xs.length - (intOf i).toNat)
    case atStart => exact ⟨0, by omega, rfl, by simp, Chg.refl _ _, fun t ht => by simpa using Hc.out t ht⟩
    case round =>
      obtain ⟨j, hj, rfl, rfl, hg, hcs⟩ := hrel
      by_cases hlt : j < xs.length
      · have hcj := (hcs.out j hlt).1
        have hfj := (hcs.out j hlt).2
        rw [if_neg (by omega)] at hcj
        go_wp2
        go_roundw
        case rel =>
          refine ⟨j + 1, by omega, by go_num, by simp only [Value.int.injEq, true_and]; omega, Chg.setCell hg (.inl HS.out) _, fun t ht => ?_⟩
          obtain ⟨h1, h2⟩ := hcs.out t ht
          by_cases e : t = j
          · subst e
            rw [if_pos (by omega)]
            exact ⟨World.cell?_setCell_same _ _ _ hcj, by simpa using hfj⟩
          · rw [World.cell?_setCell_other _ _ _ _ (fun h => e (by injection h with _ h _; omega))]
            refine ⟨?_, by simpa using h2⟩
            rw [h1]
            by_cases ht2 : t < j
            · rw [if_pos ht2, if_pos (by omega)]
            · rw [if_neg ht2, if_neg (by omega)]
        case measure => simp [intOf]; omega
      · obtain rfl : j = xs.length := by omega
        go_wp2
        go_ret
        refine ⟨rfl, hg, ⟨_, c, by rw [marks_length], by rw [marks_length]; exact hlc, hcm, Hm.out, fun _ => ⟨b, o, rfl, HS.out, Nat.lt_of_lt_of_le hbl hg.out.size, fun t ht => ?_⟩, by simp⟩⟩
        have ht' : t < xs.length := by rwa [marks_length] at ht
        obtain ⟨h1, h2⟩ := hcs.out t ht'
        rw [if_pos ht'] at h1
        exact ⟨by rw [h1, marks_get], h2⟩
  · have hn : xs = [] := List.eq_nil_of_length_eq_zero (by omega)
    subst hn
    clear hr
    go_enter Try.func91, Try.ntmps91
    go_wp2
    go_loop [1, 5] (fun q i => i = .int .i64 0 ∧ q = .int .i64 k) (fun _ _ => 0)
    case atStart => exact ⟨rfl, rfl⟩
    case round =>
      obtain ⟨rfl, rfl⟩ := hrel
      go_wp2
      go_ret
      refine ⟨by simp, Chg.refl _ _, ?_⟩
      exact Ints.nil _ _ _ _ hcm hnn

/-- a slice of int64 that bears the marks from k on -/
def MInts (w : World) (S : Nat → Prop) (v : Value) (xs : List Int) (k : Int) : Prop := Ints w S v (marks k xs.length)
theorem MInts.keep {S T : Nat → Prop} {w w' : World} {v : Value} {xs : List Int} {k : Int} (h : MInts w S v xs k) (g : Chg T w w') (hd : ∀ b, b < w.heap.size → S b → ¬ T b) : MInts w' S v xs k := Ints.keep h g hd
theorem MInts.up {S : Nat → Prop} {w w' : World} {v : Value} {xs : List Int} {k : Int} (h : MInts w S v xs k) (g : Up w w') : MInts w' S v xs k := Ints.up h g
theorem Ints.shape {w : World} {S : Nat → Prop} {v : Value} {xs : List Int} (h : Ints w S v xs) : ∃ A c, v = .slice A xs.length c ∧ xs.length ≤ c ∧ c ≤ 9223372036854775807 ∧ (A = none → c = 0) :=
  let ⟨A, c, h1, h2, h3, _, _, h4⟩ := h; ⟨A, c, h1, h2, h3, h4⟩
def cntInts (xs : List Int) : Nat := xs.length
theorem markInts (w : World) (S : Nat → Prop) (v : Value) (xs : List Int) (k : Int) (hk : 0 ≤ k) (hb : k + cntInts xs ≤ 4611686018427387904) (h : Ints w S v xs) :
    Calls Try.prog 91 #[v, .int .i64 k] w fun e w' => e = .returned (.int .i64 (k + cntInts xs)) ∧ Chg S w w' ∧ MInts w' S v xs k :=
  markInt64S_marks w S v xs k hk hb h
theorem heldInts (w : World) (S : Nat → Prop) (v : Value) (xs : List Int) (k : Int) (hk : 0 ≤ k) (hb : k + cntInts xs ≤ 4611686018427387904) (h : MInts w S v xs k) :
    Calls Try.prog 179 #[v, .int .i64 k] w fun e w' => e = .returned (.int .i64 (k + cntInts xs)) ∧ Up w w' := by
  have h2 := heldInt64S_held w S v (marks k xs.length) k hk (by rw [marks_length]; exact hb) h (fun j hj => marks_get _ _ _ hj)
  rw [marks_length] at h2
  exact h2.mono fun e w' ⟨he, hw⟩ => ⟨he, hw ▸ Chg.refl _ _⟩
theorem eqInts (w : World) (S T : Nat → Prop) (v u : Value) (xs : List Int) (h : Ints w S v xs) (h2 : Ints w T u xs) :
    Calls Try.prog 82 #[v, u] w fun e w' => e = .returned (.bool true) ∧ Up w w' := (eqInt64S_same w S T v u xs h h2).mono fun _ _ ⟨he, hw⟩ => ⟨he, hw.up⟩

theorem info2 : (Try.prog.info? 2).map (fun i => (i.zero, i.size, i.bytes)) = some (some (.int .i64 0), 1, 8) := by kernel_rfl

theorem toInt64S_copy (w : World) (S : Nat → Prop) (v : Value) (xs : List Int) (hb : xs.length ≤ 17592186044416) (h : Ints w S v xs) :
    Calls Try.prog 74 #[v] w fun e w' => ∃ u, e = .returned u ∧ Ints w' (New w.heap.size w'.heap.size) u xs ∧ Up w w' := by
  obtain ⟨A, c, rfl, hlc, hcm, hx, hr, -⟩ := h
  obtain ⟨i0, hi, hz0, hz1, hz2⟩ := info_parts info2
  have hmk : ∀ u : World, (Instr.makeSlice 37 (.int .i64 (xs.length : Int)) (.int .i64 (xs.length : Int))).run Try.prog u =
      .ok (.slice (some ⟨u.heap.size, 0, none⟩) xs.length xs.length) (u.alloc (.cells (madeCells #[.int .i64 0] xs.length) 2)) := fun u => by
    have h := run_make (P := Try.prog) u 37 2 i0 (.int .i64 0) Try.underlying37 hi hz0 .i64 .i64 (xs.length : Int) (xs.length : Int) (by omega) (Int.le_refl _) (by rw [hz2]; omega) (by omega)
    simpa [hz1, Value.cells] using h
  go_enter Try.func74, Try.ntmps74
  go_wp2
  have Hx := Lib.hid hx
  have Hi := Lib.hid hmk
  clear hx hmk hi hz0 hz1 hz2
  go_loopw [4] (fun i wr => ∃ j : Nat, j ≤ xs.length ∧ i = .int .i64 j ∧ Hid (Up w wr) ∧ w.heap.size < wr.heap.size ∧
      Hid (∀ t (ht : t < xs.length), wr.cell? ⟨w.heap.size, t, none⟩ = some (.int .i64 (if t < j then xs[t] else 0)) ∧ wr.frozen? ⟨w.heap.size, t, none⟩ = false)) (fun i _ => xs.length - (intOf i).toNat)
  case atStart => exact ⟨0, by omega, rfl, (Chg.refl _ _).alloc _, by simp, fun t ht => ⟨by rw [cell_new, madeInts_get _ _ ht]; simp, frozen_new _ _ _ _⟩⟩
  case round =>
    obtain ⟨j, hj, rfl, hg, hsz, hcs⟩ := hrel
    by_cases hlt : j < xs.length
    · obtain ⟨b, o, rfl, -, hbl, hc⟩ := hr (by omega)
      have hcj := hg.out.cell (hc j hlt).1 id
      have hdj := (hcs.out j hlt).1
      have hfj := (hcs.out j hlt).2
      rw [if_neg (by omega)] at hdj
      clear hc hr
      go_wp2
      go_roundw
      case rel =>
        refine ⟨j + 1, by omega, by go_num, Chg.setCell hg.out (.inr (Nat.le_refl _)) _, by simpa [World.setCell] using hsz, fun t ht => ?_⟩
        obtain ⟨h1, h2⟩ := hcs.out t ht
        by_cases e : t = j
        · subst e
          rw [if_pos (by omega)]
          exact ⟨World.cell?_setCell_same _ _ _ hdj, by simpa using hfj⟩
        · rw [World.cell?_setCell_other _ _ _ _ (fun h => e (by injection h with _ h _; exact h.symm))]
          refine ⟨?_, by simpa using h2⟩
          rw [h1]
          by_cases ht2 : t < j
          · rw [if_pos ht2, if_pos (by omega)]
          · rw [if_neg ht2, if_neg (by omega)]
      case measure => simp [intOf]; omega
    · obtain rfl : j = xs.length := by omega
      go_wp2
      go_ret
      refine ⟨_, rfl, Ints.of_cells ⟨Nat.le_refl _, hsz⟩ hsz (Nat.le_refl _) (by omega) Hx.out fun t ht => ?_, hg⟩
      obtain ⟨h1, h2⟩ := hcs.out t ht
      rw [if_pos ht] at h1
      exact ⟨h1, h2⟩

theorem toInts (w : World) (S : Nat → Prop) (v : Value) (xs : List Int) (hb : cntInts xs ≤ 8388608) (h : Ints w S v xs) :
    Calls Try.prog 74 #[v] w fun e w' => ∃ u, e = .returned u ∧ Ints w' (New w.heap.size w'.heap.size) u xs ∧ Up w w' :=
  toInt64S_copy w S v xs (by unfold cntInts at hb; omega) h

/-- an argument that is a slice of int64 -/
theorem open_Ints {H : Type} {enc : TypeId × Value → H} {P : Program} {w : World} {t e : TypeId} {v : Value} {d : DataW H} {p : List MemPlace} {base : Nat}
    (ht : P.underlying t = some (.slice e)) (he : P.underlying e = some (.int .i64)) (hC : P.cellsOf e = 1) (hv : Value.okWide P w .any base t v)
    (h : DataW.Trod enc P w 0 (fun _ => true) true t v d p) (hz : ∀ b off, MemPlace.cell b off ∈ p → w.frozen? ⟨b, off, none⟩ = false) :
    ∃ xs, Ints w (fun b => b < w.heap.size) v xs := by
  obtain ⟨a0, len, cap, rfl⟩ := okWide_slice ht hv
  obtain ⟨fuel, hf⟩ := h
  rcases open_ints ht he hC hf with ⟨hcs, hx⟩ | ⟨a, len', cap', zs, hcs, _, hl, hm, hlen, hx, hcell, hwz⟩
  · simp [Value.cells] at hcs
    obtain ⟨rfl, rfl, rfl⟩ := hcs
    exact ⟨[], Ints.nil _ _ _ _ (by omega)⟩
  · simp [Value.cells] at hcs
    obtain ⟨rfl, rfl, rfl⟩ := hcs
    unfold Go.maxLen at hm
    simp at hlen
    have hzl : (zs.take len).length = len := by simp; omega
    refine ⟨zs.take len, some a, cap, by rw [hzl], by rw [hzl]; exact hl, by omega, fun x hx => I64.of_wf (hwz x (List.mem_of_mem_take hx)), fun hp => ?_, by simp⟩
    rw [hzl] at hp
    obtain ⟨b, off, rfl, hc⟩ := ints_at hcell (by omega)
    have hb : b < w.heap.size := World.block_lt_of_cell? w _ (hc 0 (by omega))
    refine ⟨b, off, rfl, hb, hb, fun j hj => ?_⟩
    have hj' : j < len := by rwa [hzl] at hj
    have hjz : j < zs.length := by omega
    refine ⟨by rw [hc j hjz]; simp [hjz], hz b (off + j) ?_⟩
    simp only [Prod.mk.injEq] at hx
    rw [hx.2]
    simp [MemPlace.row]
    exact hjz
end Go.Proofs.Ytjgdcjhmfbefdaa
