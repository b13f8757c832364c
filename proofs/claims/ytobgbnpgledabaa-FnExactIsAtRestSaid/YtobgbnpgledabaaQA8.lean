/- Missing letters on both sides. No condition. Parts of slices of int64. No condition. -/
import Derived.Test.YtobgbnpgledabaaQA7
import Derived.Test.YtobgbnpgledabaaQA1
section
set_option linter.unusedSimpArgs false
set_option linter.unusedVariables false
set_option maxRecDepth 100000
set_option maxHeartbeats 1000000
namespace Go.Proofs.Ytobgbnpgledabaa
open Go.ChangeShapes Go.WideShapes Go.ChangeAt Go.RowKit
def IdxPost (x : Int) (xs : List Int) (w : World) (e : Ending) (w' : World) : Prop := ∃ n : Int, decide (0 ≤ n) = decide (x ∈ xs) ∧ e = .returned (.int .i64 n) ∧ w = w'
theorem index_p (w : World) (S : Nat → Prop) (v : Value) (xs : List Int) (x : Int) (h : Ints w S v xs) :
    Calls Try.prog 152 #[v, .int .i64 x] w (IdxPost x xs w) := by
  obtain ⟨A, c, rfl, hlc, hcm, -⟩ := h.shape
  have H := Lib.hid h
  clear h
  go_enter Try.func152, Try.ntmps152
  go_wp2
  go_loop [5, 8] (fun _ i => ∃ j : Nat, j ≤ xs.length ∧ i = .int .i64 j ∧ Hid (x ∉ xs.take j)) (fun _ i => xs.length - (intOf i).toNat)
  case atStart => exact ⟨0, by omega, rfl, by simp [Hid]⟩
  case round =>
    obtain ⟨j, hj, rfl, hno⟩ := hrel
    by_cases hlt : j < xs.length
    · obtain ⟨b1, o1, rfl, -, hc⟩ := H.out.ix hlt
      have f1 := hc j hlt
      rw [ix_eq hlt] at f1
      clear hc
      by_cases he : xs[j] = x
      · have HM := Lib.hid (show decide (x ∈ xs) = true from decide_eq_true (he ▸ List.getElem_mem hlt))
        rw [he] at f1
        have e1 : (x == x) = true := by simp
        clear he
        go_wp2
        go_ret
        exact ⟨j, by rw [HM.out]; exact decide_eq_true (by omega), rfl, rfl⟩
      · have e1 : (x == xs[j]) = false := by rw [beq_eq_false_iff_ne]; exact fun h => he h.symm
        have HE := Lib.hid he
        clear he
        go_wp2
        go_round
        case rel => exact ⟨j + 1, by omega, by go_num, by show x ∉ _; rw [List.take_succ_eq_append_getElem hlt]; intro hm; rcases List.mem_append.1 hm with hm | hm; exact hno.out hm; exact HE.out (by simpa [eq_comm] using hm)⟩
        case measure => simp [intOf]; omega
    · obtain rfl : j = xs.length := by omega
      have HM := Lib.hid (show decide (x ∈ xs) = false from decide_eq_false (by have := hno.out; rwa [List.take_length] at this))
      go_wp2
      go_ret
      exact ⟨-1, by rw [HM.out]; exact decide_eq_false (by omega), rfl, rfl⟩
theorem contains_p (w : World) (S : Nat → Prop) (v : Value) (xs : List Int) (x : Int) (h : Ints w S v xs) :
    Calls Try.prog 96 #[v, .int .i64 x] w fun e w' => e = .returned (.bool (decide (x ∈ xs))) ∧ w = w' := by
  obtain ⟨A, c, rfl, hlc, hcm, -⟩ := h.shape
  have H := Lib.hid h
  clear h
  go_enter Try.func96, Try.ntmps96
  go_wp2_with fail
  refine (index_p _ _ _ _ _ H.out).mono ?_
  rintro e w' ⟨n, hn, rfl, rfl⟩
  have HN := Lib.hid hn
  clear hn
  go_wp2
  go_ret
  exact ⟨ret_bool HN.out, rfl⟩
theorem invM_len {p : List Int} (h : permB p = true) : (invM p).length ≤ 1000 := by
  have := permB_len h
  unfold invM
  rw [invTo_length]
  omega
theorem l04Finish_any (w : World) (S : Nat → Prop) (v : Value) (p : List Int) (h : Ints w S v p) (hp : permB p = true) :
    Calls Try.prog 237 #[v] w fun e w' => ∃ u, e = .returned u ∧ Ints w' (New w.heap.size w'.heap.size) u (startM (invM p)) ∧ Up w w' := by
  obtain ⟨A, c, rfl, hlc, hcm, -⟩ := h.shape
  have H := Lib.hid h
  have HP := Lib.hid hp
  have HL := Lib.hid (invM_len hp)
  clear h hp
  go_enter Try.func237, Try.ntmps237
  go_wp2_with fail
  refine (l04Inverse_any _ _ _ p H.out HP.out).mono ?_
  rintro e w1 ⟨v1, rfl, k1, g1⟩
  obtain ⟨A1, c1, rfl, hl1, hc1, -⟩ := k1.shape
  have K1 := Lib.hid k1
  have G1 := Lib.hid g1
  clear k1 g1
  go_wp2_with fail
  refine (l04Start_any _ _ _ (invM p) K1.out HL.out).mono ?_
  rintro e w2 ⟨v2, rfl, k2, g2⟩
  have K2 := Lib.hid k2
  have G2 := Lib.hid g2
  have hz := G1.out.size
  clear k2 g2
  go_wp2
  go_ret
  exact ⟨_, rfl, K2.out.mono (fun b _ h => ⟨Nat.le_trans hz h.1, h.2⟩), Chg.trans G1.out G2.out⟩
theorem l04Extra_any (w : World) (S T : Nat → Prop) (v u : Value) (p q : List Int) (h : Ints w S v p) (h2 : Ints w T u q) (hp : permB p = true) (hq : q.length ≤ 1000) :
    Calls Try.prog 215 #[v, u] w fun e w' => e = .returned (.int .i64 (extraM p q)) ∧ Up w w' := by
  obtain ⟨A, c, rfl, hlc, hcm, -⟩ := h.shape
  obtain ⟨B, d, rfl, hld, hdm, -⟩ := h2.shape
  have H := Lib.hid h
  have H2 := Lib.hid h2
  have HP := Lib.hid hp
  have HL := Lib.hid (invM_len hp)
  clear h h2 hp
  go_enter Try.func215, Try.ntmps215
  go_wp2_with fail
  refine (l04Finish_any _ _ _ p H.out HP.out).mono ?_
  rintro e w2 ⟨v2, rfl, k2, g2⟩
  obtain ⟨A2, c2, rfl, hl2, hc2, -⟩ := k2.shape
  have K2 := Lib.hid k2
  have G2 := Lib.hid g2
  clear k2 g2
  go_wp2_with fail
  refine (l04Start_any _ _ _ q (H2.out.up G2.out) hq).mono ?_
  rintro e w3 ⟨v3, rfl, k3, g3⟩
  obtain ⟨A3, c3, rfl, hl3, hc3, -⟩ := k3.shape
  have K3 := Lib.hid k3
  have G3 := Lib.hid g3
  clear k3 g3
  have U3 := Lib.hid (Chg.trans G2.out G3.out)
  have KE := Lib.hid (K2.out.up G3.out)
  have HQ : Hid (∀ i (hi : i < (startM q).length), I64 (startM q)[i]) := Lib.hid fun i hi => by have := startM_bd q _ (List.getElem_mem hi); unfold I64; omega
  go_wp2
  go_loop [7] (fun i => ∃ j : Nat, j ≤ (startM q).length ∧ i = .int .i64 j ∧ Hid (extraFrom p q j)) (fun i => (startM q).length - (intOf i).toNat)
  case atStart => exact ⟨0, by omega, rfl, extraFrom.start p q⟩
  case round =>
    obtain ⟨j, hj, rfl, hp⟩ := hrel
    by_cases hlt : j < (startM q).length
    · obtain ⟨b, o, rfl, -, hc⟩ := K3.out.ix hlt
      have f0 := hc j hlt
      rw [ix_eq hlt] at f0
      clear hc
      by_cases hm : (startM q)[j] ∈ startM (invM p)
      · have HM := Lib.hid (decide_eq_true hm)
        have HN := Lib.hid (hp.out.next hlt hm)
        clear hm
        go_wp2_with fail
        refine (has_any _ _ _ _ _ KE.out).mono ?_
        rintro e w' ⟨rfl, rfl⟩
        rw [HM.out]
        go_wp2
        go_round
        case rel => exact ⟨j + 1, by omega, by go_num, HN.out⟩
        case measure => first | (simp [intOf]; done) | (simp [intOf]; omega)
      · have HM := Lib.hid (decide_eq_false hm)
        have HB := Lib.hid (hp.out.at_ hlt hm)
        clear hm
        go_wp2_with fail
        refine (has_any _ _ _ _ _ KE.out).mono ?_
        rintro e w' ⟨rfl, rfl⟩
        rw [HM.out]
        go_wp2
        go_ret
        exact ⟨ret_int HB.out.symm, U3.out⟩
    · obtain rfl : j = (startM q).length := by omega
      have HB := Lib.hid hp.out.all
      go_wp2
      go_ret
      exact ⟨ret_int HB.out.symm, U3.out⟩
theorem missing_any (w : World) (S T : Nat → Prop) (v u : Value) (p q : List Int) (h : Ints w S v p) (h2 : Ints w T u q) (hp : permB p = true) (hq : q.length ≤ 1000) :
    Calls Try.prog 220 #[v, u] w fun e w' => e = .returned (.int .i64 (extraM p q)) ∧ Up w w' := by
  obtain ⟨A, c, rfl, hlc, hcm, -⟩ := h.shape
  obtain ⟨B, d, rfl, hld, hdm, -⟩ := h2.shape
  have H := Lib.hid h
  have H2 := Lib.hid h2
  have HP := Lib.hid hp
  have HL := Lib.hid (invM_len hp)
  clear h h2 hp
  go_enter Try.func220, Try.ntmps220
  go_wp2_with fail
  refine (invert_any _ _ _ p H.out HP.out).mono ?_
  rintro e w1 ⟨v1, rfl, k1, g1⟩
  obtain ⟨A1, c1, rfl, hl1, hc1, -⟩ := k1.shape
  have K1 := Lib.hid k1
  have G1 := Lib.hid g1
  clear k1 g1
  go_wp2_with fail
  refine (startLetters_any _ _ _ (invM p) K1.out HL.out).mono ?_
  rintro e w2 ⟨v2, rfl, k2, g2⟩
  obtain ⟨A2, c2, rfl, hl2, hc2, -⟩ := k2.shape
  have K2 := Lib.hid k2
  have G2 := Lib.hid g2
  clear k2 g2
  have U := Lib.hid (Chg.trans G1.out G2.out)
  go_wp2_with fail
  refine (startLetters_any _ _ _ q (H2.out.up U.out) hq).mono ?_
  rintro e w3 ⟨v3, rfl, k3, g3⟩
  obtain ⟨A3, c3, rfl, hl3, hc3, -⟩ := k3.shape
  have K3 := Lib.hid k3
  have G3 := Lib.hid g3
  clear k3 g3
  have U3 := Lib.hid (Chg.trans U.out G3.out)
  have KE := Lib.hid (K2.out.up G3.out)
  have HQ : Hid (∀ i (hi : i < (startM q).length), I64 (startM q)[i]) := Lib.hid fun i hi => by have := startM_bd q _ (List.getElem_mem hi); unfold I64; omega
  go_wp2
  go_loop [7, 14] (fun _ i => ∃ j : Nat, j ≤ (startM q).length ∧ i = .int .i64 j ∧ Hid (extraFrom p q j)) (fun _ i => (startM q).length - (intOf i).toNat)
  case atStart => exact ⟨0, by omega, rfl, extraFrom.start p q⟩
  case round =>
    obtain ⟨j, hj, rfl, hp⟩ := hrel
    by_cases hlt : j < (startM q).length
    · obtain ⟨b, o, rfl, -, hc⟩ := K3.out.ix hlt
      have f0 := hc j hlt
      rw [ix_eq hlt] at f0
      clear hc
      by_cases hm : (startM q)[j] ∈ startM (invM p)
      · have HM := Lib.hid (decide_eq_true hm)
        have HN := Lib.hid (hp.out.next hlt hm)
        clear hm
        go_wp2_with fail
        refine (contains_p _ _ _ _ _ KE.out).mono ?_
        rintro e w' ⟨rfl, rfl⟩
        rw [HM.out]
        go_wp2
        go_round
        case rel => exact ⟨j + 1, by omega, by go_num, HN.out⟩
        case measure => first | (simp [intOf]; done) | (simp [intOf]; omega)
      · have HM := Lib.hid (decide_eq_false hm)
        have HB := Lib.hid (hp.out.at_ hlt hm)
        clear hm
        go_wp2_with fail
        refine (contains_p _ _ _ _ _ KE.out).mono ?_
        rintro e w' ⟨rfl, rfl⟩
        rw [HM.out]
        go_wp2
        go_ret
        exact ⟨ret_int HB.out.symm, U3.out⟩
    · obtain rfl : j = (startM q).length := by omega
      have HB := Lib.hid hp.out.all
      go_wp2
      go_ret
      exact ⟨ret_int HB.out.symm, U3.out⟩
end Go.Proofs.Ytobgbnpgledabaa
end
section
set_option linter.unusedSimpArgs false
set_option linter.unusedVariables false
namespace Go.Proofs.Ytobgbnpgledabaa
open Go.ChangeShapes Go.WideShapes Go.ChangeAt Go.RowKit
theorem Ints.part {w : World} {S : Nat → Prop} {A A' : Option Addr} {c c' k : Nat} {xs : List Int} (h : Ints w S (.slice A xs.length c) xs) (i : Nat) (hik : i + k ≤ xs.length) (hc : k ≤ c') (hc2 : c' ≤ 9223372036854775807)
    (hA : ∀ b o, A = some ⟨b, o, none⟩ → 0 < k → A' = some ⟨b, o + i, none⟩) (hn : A' = none → c' = 0) : Ints w S (.slice A' k c') ((xs.drop i).take k) := by
  obtain ⟨A0, c0, he, h1, h2, h3, h4, h5⟩ := h
  obtain ⟨rfl, rfl⟩ : A = A0 ∧ c = c0 := by simpa using he
  have hlen : ((xs.drop i).take k).length = k := by rw [List.length_take, List.length_drop]; omega
  refine ⟨A', c', by rw [hlen], by rw [hlen]; exact hc, hc2, fun x hx => h3 x (List.mem_of_mem_drop (List.mem_of_mem_take hx)), fun hp => ?_, hn⟩
  rw [hlen] at hp
  obtain ⟨b, o, hA0, hS, hb, hcell⟩ := h4 (by omega)
  refine ⟨b, o + i, hA b o hA0 hp, hS, hb, fun t ht => ?_⟩
  rw [hlen] at ht
  have h9 := hcell (i + t) (by omega)
  rw [← Nat.add_assoc] at h9
  have e3 : ((xs.drop i).take k)[t]'(by omega) = xs[i + t]'(by omega) := by simp
  rw [e3]
  exact h9
theorem Ints.took {w : World} {S : Nat → Prop} {A : Option Addr} {c k c2 : Nat} {xs : List Int} (h : Ints w S (.slice A xs.length c) xs) (hk : k ≤ xs.length) (hc2 : c2 = c) : Ints w S (.slice A k c2) (xs.take k) := by
  subst hc2
  obtain ⟨A', c', he, h1, h2, h3⟩ := h.shape
  obtain ⟨rfl, rfl⟩ : A = A' ∧ c2 = c' := by simpa using he
  have := h.part (A' := A) (c' := c2) 0 (k := k) (by omega) (by omega) h2 (fun b' o' e _ => by simpa using e) h3
  simpa using this
theorem Ints.dropt {w : World} {S : Nat → Prop} {A A' : Option Addr} {c k c2 n : Nat} {xs : List Int} (h : Ints w S (.slice A xs.length c) xs) (hk : k ≤ xs.length) (hn : n = xs.length - k) (hc2 : c2 = c - k) (hA : ∀ b o, A = some ⟨b, o, none⟩ → k < xs.length → A' = some ⟨b, o + k, none⟩) (hA2 : A' = none → c2 = 0) : Ints w S (.slice A' n c2) (xs.drop k) := by
  subst hc2 hn
  obtain ⟨A0, c', he, h1, h2, h3⟩ := h.shape
  obtain ⟨rfl, rfl⟩ : A = A0 ∧ c = c' := by simpa using he
  have := h.part (A' := A') (c' := c - k) k (k := xs.length - k) (by omega) (by omega) (by omega) (fun b o e hp => hA b o e (by omega)) hA2
  rwa [List.take_of_length_le (by simp)] at this
end Go.Proofs.Ytobgbnpgledabaa
end
