/- slices.Reverse on numbers. No condition. -/
import Derived.Test.YtjgdcjhmfbefdaaRow5
import Derived.RegionTactic
import Derived.ChangeAlike
namespace Go.Proofs.Ytjgdcjhmfbefdaa
open Go.ChangeShapes Go.WideShapes Go.ChangeAt Go.RowKit
/-- in the middle of turning a list round: the first k and the last k have changed places -/
def revAt (xs : List Int) (k t : Nat) : Int := if t < k ∨ xs.length - k ≤ t then ix xs (xs.length - 1 - t) else ix xs t
theorem revAt_k {xs : List Int} {k m : Nat} (hm : m = xs.length - 1 - k) (_h : k < m) : revAt xs (k + 1) k = ix xs m := by
  unfold revAt
  rw [if_pos (by omega), hm]
theorem revAt_m {xs : List Int} {k m : Nat} (hm : m = xs.length - 1 - k) (h : k < m) : revAt xs (k + 1) m = ix xs k := by
  unfold revAt
  rw [if_pos (by omega), show xs.length - 1 - m = k by omega]
theorem revAt_no {xs : List Int} {k m t : Nat} (hm : m = xs.length - 1 - k) (h : k < m) (h1 : t ≠ k) (h2 : t ≠ m) (ht : t < xs.length) : revAt xs (k + 1) t = revAt xs k t := by
  unfold revAt
  by_cases hh : t < k ∨ xs.length - k ≤ t
  · rw [if_pos hh, if_pos (by omega)]
  · rw [if_neg hh, if_neg (by omega)]
theorem revAt_end {xs : List Int} {k t : Nat} (h : ¬ k + 1 < xs.length - k) (hk : 2 * k ≤ xs.length) (ht : t < xs.length) : revAt xs k t = ix xs (xs.length - 1 - t) := by
  unfold revAt
  by_cases hh : t < k ∨ xs.length - k ≤ t
  · rw [if_pos hh]
  · rw [if_neg hh, show xs.length - 1 - t = t by omega]
set_option maxRecDepth 100000 in
set_option maxHeartbeats 4000000 in
theorem reverse_go (w : World) (b o c : Nat) (xs : List Int) (hlc : xs.length ≤ c) (hcm : c ≤ 9223372036854775807) (_hbl : b < w.heap.size)
    (hc : ∀ t, t < xs.length → w.cell? ⟨b, o + t, none⟩ = some (.int .i64 (ix xs t)) ∧ w.frozen? ⟨b, o + t, none⟩ = false) :
    Calls Try.prog 214 #[.slice (some ⟨b, o, none⟩) xs.length c] w fun e w' => e = .returned (.tuple #[]) ∧ Chg (fun x => x = b) w w' ∧ ∀ t, t < xs.length → w'.cell? ⟨b, o + t, none⟩ = some (.int .i64 (ix xs (xs.length - 1 - t))) ∧ w'.frozen? ⟨b, o + t, none⟩ = false := by
  have Hc := Lib.hid hc
  clear hc
  go_enter Try.func214, Try.ntmps214
  go_wp2
  go_loopw [2, 3] (fun i j wr => ∃ k : Nat, 2 * k ≤ xs.length ∧ i = .int .i64 k ∧ j = .int .i64 ((xs.length : Int) - 1 - k) ∧ Hid (Chg (fun x => x = b) w wr) ∧ Hid (∀ t, t < xs.length → wr.cell? ⟨b, o + t, none⟩ = some (.int .i64 (revAt xs k t)) ∧ wr.frozen? ⟨b, o + t, none⟩ = false)) (fun i _ _ => xs.length - (intOf i).toNat)
  case atStart => exact ⟨0, by omega, rfl, by simp, Chg.refl _ _, fun t ht => by
    have := Hc.out t ht
    unfold revAt
    rw [if_neg (by omega)]
    exact this⟩
  case round =>
    obtain ⟨k, hk, rfl, rfl, hg, hcs⟩ := hrel
    by_cases hlt : k + 1 < xs.length - k
    · obtain ⟨m, hm⟩ : ∃ m : Nat, m = xs.length - 1 - k := ⟨_, rfl⟩
      have hmI : (xs.length : Int) - 1 - k = m := by omega
      have hmk : k < m ∧ m < xs.length := by omega
      obtain ⟨hm1, hm2⟩ := hmk
      obtain ⟨p1, p2⟩ := hcs.out k (by omega)
      obtain ⟨p3, p4⟩ := hcs.out m hm2
      have e1 : revAt xs k k = ix xs k := by unfold revAt; rw [if_neg (by omega)]
      have e2 : revAt xs k m = ix xs m := by unfold revAt; rw [if_neg (by omega)]
      rw [e1] at p1
      rw [e2] at p3
      have HM := Lib.hid hm
      rw [hmI]
      have HMI := Lib.hid hmI
      clear e1 e2 hm hmI
      have hdd : decide ((k : Int) < (m : Int)) = true := decide_eq_true (by omega)
      have hnn : ¬ o + k = o + m := by omega
      have hnn2 : ¬ o + m = o + k := by omega
      go_wp2
      go_region
      all_goals go_wp2
      all_goals
        refine ⟨⟨k + 1, by omega, by go_num, ?_, ?_, ?_⟩, ?_⟩
        · have := HM.out; simp only [Value.int.injEq, true_and]; omega
        · exact Chg.drew (Chg.setCell (Chg.setCell hg.out (.inl rfl) _) (.inl rfl) _)
        · intro t ht
          obtain ⟨q1, q2⟩ := hcs.out t ht
          have hk1 : (wr.setCell ⟨b, o + k, none⟩ (.int .i64 (ix xs m))).cell? ⟨b, o + m, none⟩ = some (.int .i64 (ix xs m)) := by
            rw [World.cell?_setCell_other _ _ _ _ (fun h => hnn (Addr.mk.inj h).2.1)]
            exact p3
          by_cases ek : t = k
          · subst ek
            rw [revAt_k HM.out hm1]
            refine ⟨?_, by simpa using q2⟩
            show (World.setCell _ _ _).cell? _ = _
            rw [World.cell?_setCell_other _ _ _ _ (fun h => hnn2 (Addr.mk.inj h).2.1), World.cell?_setCell_same _ _ _ p1]
          · by_cases em : t = m
            · subst em
              rw [revAt_m HM.out hm1]
              refine ⟨?_, by simpa using q2⟩
              show (World.setCell _ _ _).cell? _ = _
              rw [World.cell?_setCell_same _ _ _ hk1]
            · rw [revAt_no HM.out hm1 ek em ht]
              refine ⟨?_, by simpa using q2⟩
              show (World.setCell _ _ _).cell? _ = _
              rw [World.cell?_setCell_other _ _ _ _ (fun h => em (by have := (Addr.mk.inj h).2.1; omega)), World.cell?_setCell_other _ _ _ _ (fun h => ek (by have := (Addr.mk.inj h).2.1; omega))]
              exact q1
        · simp [intOf]; omega
    · have hnot : ¬ (k : Int) < (xs.length : Int) - 1 - k := by omega
      have HE := Lib.hid (fun t (ht : t < xs.length) => revAt_end hlt hk ht)
      clear hlt
      go_wp2
      go_end0
      refine ⟨rfl, hg.out, fun t ht => ?_⟩
      rw [← HE.out t ht]
      exact hcs.out t ht
theorem reverse_any (w : World) (S : Nat → Prop) (v : Value) (xs : List Int) (h : Ints w S v xs) :
    Calls Try.prog 214 #[v] w fun e w' => e = .returned (.tuple #[]) ∧ Chg S w w' ∧ Ints w' S v xs.reverse := by
  obtain ⟨A, c, rfl, hlc, hcm, hx, hr, hnn⟩ := h
  by_cases hp : 0 < xs.length
  · obtain ⟨b, o, rfl, hS, hbl, hc⟩ := hr hp
    refine (reverse_go w b o c xs hlc hcm hbl (fun t ht => by rw [ix_eq ht]; exact hc t ht)).mono ?_
    rintro e w' ⟨he, hg, hcs⟩
    refine ⟨he, hg.mono (fun k _ hk => by rw [hk]; exact hS), _, c, by rw [List.length_reverse], by rw [List.length_reverse]; exact hlc, hcm, fun x hxx => hx x (List.mem_reverse.1 hxx), fun _ => ⟨b, o, rfl, hS, Nat.lt_of_lt_of_le hbl hg.size, fun t ht => ?_⟩, by simp⟩
    have ht' : t < xs.length := by simpa using ht
    have := hcs t ht'
    rw [ix_eq (show xs.length - 1 - t < xs.length by omega)] at this
    rw [List.getElem_reverse]
    exact this
  · have hn : xs = [] := List.eq_nil_of_length_eq_zero (by omega)
    subst hn
    clear hr hp
    go_enter Try.func214, Try.ntmps214
    go_wp2
    go_loop [2, 3] (fun i j => i = .int .i64 0 ∧ j = .int .i64 (-1)) (fun _ _ => 0)
    case atStart => exact ⟨rfl, by simp⟩
    case round =>
      obtain ⟨rfl, rfl⟩ := hrel
      go_wp2
      go_end0
      exact ⟨rfl, Chg.refl _ _, Ints.nil _ _ _ _ hcm hnn⟩
end Go.Proofs.Ytjgdcjhmfbefdaa
