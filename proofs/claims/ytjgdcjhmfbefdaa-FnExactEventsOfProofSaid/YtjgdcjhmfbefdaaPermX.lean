/- Permutations: validity, start letters, missing letters on both sides. No condition. -/
import Derived.Test.YtjgdcjhmfbefdaaPermW
import Derived.Test.YtjgdcjhmfbefdaaPrf
set_option linter.unusedSimpArgs false
set_option linter.unusedVariables false
set_option maxRecDepth 100000
set_option maxHeartbeats 1000000
namespace Go.Proofs.Ytjgdcjhmfbefdaa
open Go.ChangeShapes Go.WideShapes Go.ChangeAt Go.RowKit
theorem callS {f : FuncId} {args : Array Value} {w : World} {b c : Bool} (h : Calls Try.prog f args w fun e w' => e = .returned (.bool b) ∧ w = w') (hb : b = c) : Calls Try.prog f args w fun e w' => e = .returned (.bool c) ∧ w = w' := hb ▸ h
theorem Ints.pre {w : World} {S : Nat → Prop} {A : Option Addr} {c : Nat} {xs : List Int} (h : Ints w S (.slice A xs.length c) xs) {k : Nat} (hk : k ≤ xs.length) : Ints w S (.slice A k c) (xs.take k) := by
  obtain ⟨A', c', he, h1, h2, h3, hr, h5⟩ := h
  obtain ⟨rfl, rfl⟩ : A = A' ∧ c = c' := by simpa using he
  have hl : (xs.take k).length = k := by rw [List.length_take]; omega
  refine ⟨A, c, by rw [hl], by omega, h2, fun x hx => h3 x (List.mem_of_mem_take hx), fun hp => ?_, h5⟩
  obtain ⟨b, o, hA, hs, hbl, hc⟩ := hr (by omega)
  refine ⟨b, o, hA, hs, hbl, fun j hj => ?_⟩
  rw [hl] at hj
  rw [List.getElem_take]
  exact hc j (by omega)
theorem l04Perm_any (w : World) (S : Nat → Prop) (v : Value) (p : List Int) (h : Ints w S v p) :
    Calls Try.prog 210 #[v] w fun e w' => e = .returned (.bool (permB p)) ∧ Up w w' := by
  obtain ⟨A, c, rfl, hlc, hcm, -⟩ := h.shape
  have H := Lib.hid h
  clear h
  go_enter Try.func210, Try.ntmps210
  go_wp2
  go_loopw [3] (fun i wr => ∃ j : Nat, j ≤ p.length ∧ i = .int .i64 j ∧ Hid (permTo p j) ∧ Hid (Up w wr)) (fun i _ => p.length - (intOf i).toNat)
  case atStart => exact ⟨0, by omega, rfl, permTo.start p, Chg.refl _ _⟩
  case round =>
    obtain ⟨j, hj, rfl, hp, hu⟩ := hrel
    by_cases hlt : j < p.length
    · have HP := Lib.hid (H.out.pre (k := j) hj)
      obtain ⟨b, o, rfl, -, hc⟩ := (H.out.up hu.out).ix hlt
      have f0 := hc j hlt
      rw [ix_eq hlt] at f0
      have uf := up_cell f0
      clear hc f0
      have hw1 : IntKind.i64.wrap ((p.length : Int) - 1) = (p.length : Int) - 1 := IntWalk.i64_in _ (by omega)
      by_cases hin : 0 ≤ p[j] ∧ p[j] ≤ (p.length : Int) - 1
      · have HI := Lib.hid (inB_yes hin)
        have HIN := Lib.hid hin
        clear hin
        by_cases hm : p[j] ∈ p.take j
        · have HB := Lib.hid (permB_twice hlt hm)
          have HM := Lib.hid (decide_eq_true hm)
          clear hm
          go_wp2
          refine wp_region_up (by kernel_rfl) (by kernel_rfl) ?_
          repeat (go_big_quiet_step (first | (go_at_call 68; with_reducible exact calls_up_same (callS (l00In_any _ _ _ _) HI.out)) | (go_at_call 70; with_reducible exact calls_up_same (callS (has_any _ _ _ (p.take j) _ (HP.out.up (Chg.trans hu.out (UpOf.up _)))) HM.out))))
          refine wpQuiet_nil ?_
          rintro _ ⟨u, rfl⟩
          go_wp2
          go_ret
          exact ⟨ret_bool HB.out.symm, Chg.trans hu.out u.up⟩
        · have HM := Lib.hid (decide_eq_false hm)
          have HN := Lib.hid (permTo.next hp.out hlt (by have := HIN.out; omega) hm)
          clear hm
          go_wp2
          refine wp_region_up (by kernel_rfl) (by kernel_rfl) ?_
          repeat (go_big_quiet_step (first | (go_at_call 68; with_reducible exact calls_up_same (callS (l00In_any _ _ _ _) HI.out)) | (go_at_call 70; with_reducible exact calls_up_same (callS (has_any _ _ _ (p.take j) _ (HP.out.up (Chg.trans hu.out (UpOf.up _)))) HM.out))))
          refine wpQuiet_nil ?_
          rintro _ ⟨u, rfl⟩
          go_wp2
          go_roundw
          case rel => exact ⟨j + 1, by omega, by go_num, HN.out, Lib.hid (Chg.trans hu.out u.up)⟩
          case measure => first | (simp [intOf]; done) | (simp [intOf]; omega)
      · have HI := Lib.hid (show inB p[j] 0 ((p.length : Int) - 1) = false from decide_eq_false hin)
        have HB := Lib.hid (permB_out hlt (fun h => hin (by omega)))
        clear hin
        go_wp2
        refine wp_region_up (by kernel_rfl) (by kernel_rfl) ?_
        repeat (go_big_quiet_step (first | (go_at_call 68; with_reducible exact calls_up_same (callS (l00In_any _ _ _ _) HI.out))))
        refine wpQuiet_nil ?_
        rintro _ ⟨u, rfl⟩
        go_wp2
        go_ret
        exact ⟨ret_bool HB.out.symm, Chg.trans hu.out u.up⟩
    · obtain rfl : j = p.length := by omega
      by_cases hl : p.length ≤ 12
      · have HB := Lib.hid (hp.out.all hl)
        go_wp2
        go_ret
        exact ⟨ret_bool (by rw [HB.out]; simp; omega), hu.out⟩
      · have HB := Lib.hid (permB_long hl)
        go_wp2
        go_ret
        exact ⟨ret_bool (by rw [HB.out]; simp; omega), hu.out⟩
def Seen (w : World) (g : Nat) (p : List Int) (j : Nat) : Prop := ∀ k : Nat, k < 12 → w.cell? ⟨g, k, none⟩ = some (.bool (decide ((k : Int) ∈ p.take j))) ∧ w.frozen? ⟨g, k, none⟩ = false
theorem Seen.next {w : World} {g : Nat} {p : List Int} {j k : Nat} (h : Seen w g p j) (hj : j < p.length) (hk : p[j] = k) (hk2 : k < 12) : Seen (w.setCell ⟨g, k, none⟩ (.bool true)) g p (j + 1) := fun t ht => by
  obtain ⟨h1, h2⟩ := h t ht
  have e : p.take (j + 1) = p.take j ++ [p[j]] := List.take_succ_eq_append_getElem hj
  by_cases ek : t = k
  · subst ek
    refine ⟨?_, by simpa using h2⟩
    rw [World.cell?_setCell_same _ _ _ h1, e, decide_eq_true (by simp [hk])]
  · refine ⟨?_, by simpa using h2⟩
    rw [World.cell?_setCell_other _ _ _ _ (fun h => ek (by injection h with _ h _; omega)), h1, e]
    congr 2
    rw [decide_eq_decide]
    simp only [List.mem_append, List.mem_singleton]
    constructor
    · exact .inl
    · rintro (h | h)
      · exact h
      · exact absurd (by rw [hk] at h; omega) ek
set_option maxHeartbeats 2000000 in
theorem ValidPermutation_any (w : World) (S : Nat → Prop) (v : Value) (p : List Int) (h : Ints w S v p) :
    Calls Try.prog 156 #[v] w fun e w' => e = .returned (.bool (permB p)) ∧ Up w w' := by
  obtain ⟨A, c, rfl, hlc, hcm, -⟩ := h.shape
  have H := Lib.hid h
  clear h
  by_cases hl : p.length ≤ 12
  rotate_left
  · have HB := Lib.hid (permB_long hl)
    go_enter Try.func156, Try.ntmps156
    go_wp2
    go_ret
    exact ⟨ret_bool HB.out.symm, Chg.refl _ _⟩
  go_enter Try.func156, Try.ntmps156
  go_wp2
  go_loopw [5, 11] (fun _ i wr => ∃ j : Nat, j ≤ p.length ∧ i = .int .i64 j ∧ Hid (permTo p j) ∧ Hid (Up w wr) ∧ Hid (Seen wr w.heap.size p j)) (fun _ i _ => p.length - (intOf i).toNat)
  case atStart =>
    refine ⟨0, by omega, rfl, permTo.start p, (Chg.refl _ _).alloc _, fun k hk => ⟨?_, frozen_new _ _ _ _⟩⟩
    rw [cell_new]
    simp only [List.take_zero, List.not_mem_nil, decide_false]
    have : ∀ k : Nat, k < 12 → (#[Value.bool false, .bool false, .bool false, .bool false, .bool false, .bool false, .bool false, .bool false, .bool false, .bool false, .bool false, .bool false] : Array Value)[k]? = some (.bool false) := fun k hk => by
      match k, hk with
      | 0, _ => rfl
      | 1, _ => rfl
      | 2, _ => rfl
      | 3, _ => rfl
      | 4, _ => rfl
      | 5, _ => rfl
      | 6, _ => rfl
      | 7, _ => rfl
      | 8, _ => rfl
      | 9, _ => rfl
      | 10, _ => rfl
      | 11, _ => rfl
      | n + 12, h => exact absurd h (by omega)
    exact this k hk
  case round =>
    obtain ⟨j, hj, rfl, hp, hu, hs⟩ := hrel
    by_cases hlt : j < p.length
    · obtain ⟨b, o, rfl, -, hc⟩ := (H.out.up hu.out).ix hlt
      have f0 := hc j hlt
      rw [ix_eq hlt] at f0
      clear hc
      by_cases hin : 0 ≤ p[j] ∧ p[j] ≤ (p.length : Int) - 1
      · obtain ⟨kn, hk⟩ : ∃ kn : Nat, p[j] = kn := ⟨p[j].toNat, by omega⟩
        have hk12 : kn < 12 := by omega
        obtain ⟨f1, q1⟩ := hs.out kn hk12
        have HI := Lib.hid (inB_yes hin)
        have HIN := Lib.hid hin
        have HK := Lib.hid hk
        rw [hk] at f0
        rw [hk] at HI
        clear hin
        by_cases hm : p[j] ∈ p.take j
        · have HB := Lib.hid (permB_twice hlt hm)
          rw [decide_eq_true (by rw [← hk]; exact hm)] at f1
          clear hm hk
          go_wp2_with fail
          refine (within_any _ _ _ _).mono ?_
          rintro e w' ⟨rfl, rfl⟩
          rw [HI.out]
          go_wp2
          go_ret
          exact ⟨ret_bool HB.out.symm, hu.out⟩
        · have HN := Lib.hid (permTo.next hp.out hlt (by have := HIN.out; omega) hm)
          have HS := Lib.hid (Seen.next hs.out hlt hk hk12)
          rw [decide_eq_false (by rw [← hk]; exact hm)] at f1
          clear hm hk
          go_wp2_with fail
          refine (within_any _ _ _ _).mono ?_
          rintro e w' ⟨rfl, rfl⟩
          rw [HI.out]
          go_wp2
          go_roundw
          case rel => exact ⟨j + 1, by omega, by go_num, HN.out, hu.out.setCell (.inr (Nat.le_refl _)) _, HS.out⟩
          case measure => first | (simp [intOf]; done) | (simp [intOf]; omega)
      · have HI := Lib.hid (show inB p[j] 0 ((p.length : Int) - 1) = false from decide_eq_false hin)
        have HB := Lib.hid (permB_out hlt (fun h => hin (by omega)))
        clear hin
        go_wp2_with fail
        refine (within_any _ _ _ _).mono ?_
        rintro e w' ⟨rfl, rfl⟩
        rw [HI.out]
        go_wp2
        go_ret
        exact ⟨ret_bool HB.out.symm, hu.out⟩
    · obtain rfl : j = p.length := by omega
      have HB := Lib.hid (hp.out.all hl)
      go_wp2
      go_ret
      exact ⟨ret_bool HB.out.symm, hu.out⟩
def riseTo (xs : List Int) : Nat → List Int
  | 0 => xs
  | j + 1 => (riseTo xs j).set j (ix xs j + 1)
theorem riseTo_length (xs : List Int) : ∀ j, (riseTo xs j).length = xs.length
  | 0 => rfl
  | j + 1 => by rw [riseTo, List.length_set, riseTo_length xs j]
theorem riseTo_get (xs : List Int) : ∀ (j t : Nat) (h : t < (riseTo xs j).length), (riseTo xs j)[t] = if t < j then ix xs t + 1 else ix xs t
  | 0, t, h => by simp [riseTo, ix_eq (show t < xs.length from h)]
  | j + 1, t, h => by
    have hn : t < (riseTo xs j).length := by rw [riseTo_length] at *; exact h
    simp only [riseTo]
    rw [List.getElem_set]
    by_cases e : j = t
    · subst e
      rw [if_pos rfl, if_pos (by omega)]
    · rw [if_neg e, riseTo_get xs j t hn]
      by_cases h2 : t < j
      · rw [if_pos h2, if_pos (by omega)]
      · rw [if_neg h2, if_neg (by omega)]
theorem riseTo_all (xs : List Int) : riseTo xs xs.length = xs.map (· + 1) := by
  refine List.ext_getElem (by rw [riseTo_length, List.length_map]) fun t h1 h2 => ?_
  rw [riseTo_get]
  rw [riseTo_length] at h1
  rw [if_pos h1, List.getElem_map, ix_eq h1]
theorem startLetters_any (w : World) (S : Nat → Prop) (v : Value) (p : List Int) (h : Ints w S v p) (hl : p.length ≤ 1000) :
    Calls Try.prog 215 #[v] w fun e w' => ∃ u, e = .returned u ∧ Ints w' (New w.heap.size w'.heap.size) u (startM p) ∧ Up w w' := by
  obtain ⟨A, c, rfl, hlc, hcm, -⟩ := h.shape
  have H := Lib.hid h
  have HBD := Lib.hid (descTo_bd p (p.length - 1))
  have HLD := Lib.hid (descTo_length p (p.length - 1))
  clear h
  go_enter Try.func215, Try.ntmps215
  go_wp2_with fail
  refine (descents_any _ S _ p H.out hl).mono ?_
  rintro e w1 ⟨v, rfl, k1, g1⟩
  obtain ⟨B, d, rfl, hld, hdm, -⟩ := k1.shape
  obtain ⟨xs, hxs⟩ : ∃ xs, xs = descM p := ⟨_, rfl⟩
  rw [← hxs] at k1 hld ⊢
  have K1 := Lib.hid k1
  have G1 := Lib.hid g1
  have HX := Lib.hid hxs
  have hxl : xs.length ≤ 1000 := by have := HLD.out; have := HX.out; unfold descM at this; rw [this]; omega
  have HXB : Hid (∀ j (hj : j < xs.length), 0 ≤ ix xs j ∧ ix xs j ≤ 1000) := Lib.hid fun j hj => by
    have := HBD.out (ix xs j) (by rw [ix_eq hj]; have h := List.getElem_mem hj; have e := HX.out; unfold descM at e; rw [← e]; exact h)
    omega
  clear k1 g1 hxs
  go_wp2
  go_loopw [4, 9] (fun _ i wr => ∃ j : Nat, j ≤ xs.length ∧ i = .int .i64 j ∧ Hid (Chg (New w.heap.size w1.heap.size) w1 wr) ∧ Hid (Ints wr (New w.heap.size w1.heap.size) (.slice B xs.length d) (riseTo xs j))) (fun _ i _ => xs.length - (intOf i).toNat)
  case atStart => exact ⟨0, by omega, rfl, Chg.refl _ _, K1.out⟩
  case round =>
    obtain ⟨j, hj, rfl, hg, hc⟩ := hrel
    by_cases hlt : j < xs.length
    · have hlen := riseTo_length xs j
      have hI2 : Ints wr (New w.heap.size w1.heap.size) (.slice B (riseTo xs j).length d) (riseTo xs j) := by rw [hlen]; exact hc.out
      obtain ⟨b, o, rfl, hbl, hcc⟩ := ints_ixf hI2 (i := j) (by omega)
      obtain ⟨f0, q0⟩ := hcc j (by omega)
      have hv : ix (riseTo xs j) j = ix xs j := by rw [ix_eq (by omega), riseTo_get, if_neg (by omega)]
      rw [hv] at f0
      obtain ⟨hb0, hb1⟩ := HXB.out j hlt
      have HS := Lib.hid (hI2.set (k := j) (by omega) (x := ix xs j + 1) (by unfold I64; omega))
      have HNB : Hid (New w.heap.size w1.heap.size b) := by
        obtain ⟨A', c', he, _, _, _, hr, _⟩ := hI2
        obtain ⟨b', o', hA, hs, _⟩ := hr (by omega)
        simp at he
        obtain ⟨rfl, -⟩ := he
        simp at hA
        rw [hA.1]
        exact hs
      clear hcc hI2 hlen hv
      go_wp2
      go_roundw
      case rel => exact ⟨j + 1, by omega, by go_num, Chg.setCell hg.out (p := ⟨b, o + j, none⟩) (.inl HNB.out) _, by have h := HS.out; rw [riseTo_length] at h; exact h⟩
      case measure => simp [intOf]; omega
    · obtain rfl : j = xs.length := by omega
      have HE := Lib.hid (riseTo_all xs)
      go_wp2
      go_ret
      exact ⟨_, rfl, by unfold startM; rw [← HX.out, ← HE.out]; exact hc.out.mono (fun b hb h => ⟨h.1, hb⟩), Chg.new G1.out hg.out (fun i hi h => by have := h.1; omega)⟩
end Go.Proofs.Ytjgdcjhmfbefdaa
