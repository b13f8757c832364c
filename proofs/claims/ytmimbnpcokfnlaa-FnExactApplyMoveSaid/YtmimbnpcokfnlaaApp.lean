/- ApplyMove on both sides. No condition. -/
import Derived.Test.YtmimbnpcokfnlaaShelfI
import Derived.Test.YtmimbnpcokfnlaaUpR
import Derived.Test.YtmimbnpcokfnlaaMove
namespace Go.Proofs.Ytmimbnpcokfnlaa
open Go.ChangeShapes Go.WideShapes Go.ChangeAt Go.RowKit
def betB (f t x : Int) : Bool := decide ((f < x ∧ x ≤ t) ∨ (t < x ∧ x < f))
def mvTo (f t x : Int) : Int := if x = f then t else x
def appCode (xs : List Int) (f t : Int) : Int := if placesB false xs = true then (if isMoveP f t then (if f ∈ xs then (if xs.any (betB f t) = true then 12 else 0) else 7) else 1) else 1
def mvL (xs : List Int) (f t : Int) : List Int := xs.map (mvTo f t)
def appOut (xs : List Int) (f t : Int) : List Int := if appCode xs f t = 0 then onceL (mvL xs f t) (mvL xs f t) xs.length else []
theorem appCode_a {xs : List Int} {f t : Int} (h : placesB false xs = false) : appCode xs f t = 1 := if_neg (by rw [h]; simp)
theorem appCode_b {xs : List Int} {f t : Int} (h : placesB false xs = true) (h2 : ¬ isMoveP f t) : appCode xs f t = 1 := by unfold appCode; rw [if_pos h, if_neg h2]
theorem appCode_c {xs : List Int} {f t : Int} (h : placesB false xs = true) (h2 : isMoveP f t) (h3 : f ∉ xs) : appCode xs f t = 7 := by unfold appCode; rw [if_pos h, if_pos h2, if_neg h3]
theorem appCode_d {xs : List Int} {f t : Int} (h : placesB false xs = true) (h2 : isMoveP f t) (h3 : f ∈ xs) (h4 : xs.any (betB f t) = true) : appCode xs f t = 12 := by unfold appCode; rw [if_pos h, if_pos h2, if_pos h3, if_pos h4]
theorem appCode_e {xs : List Int} {f t : Int} (h : placesB false xs = true) (h2 : isMoveP f t) (h3 : f ∈ xs) (h4 : xs.any (betB f t) = false) : appCode xs f t = 0 := by unfold appCode; rw [if_pos h, if_pos h2, if_pos h3, if_neg (by rw [h4]; simp)]
theorem appOut_no {xs : List Int} {f t c : Int} (h : appCode xs f t = c) (hc : c ≠ 0) : appOut xs f t = [] := if_neg (by rw [h]; exact hc)
theorem appOut_yes {xs : List Int} {f t : Int} (h : appCode xs f t = 0) : appOut xs f t = onceL (mvL xs f t) (mvL xs f t) xs.length := if_pos h
theorem mvL_length (xs : List Int) (f t : Int) : (mvL xs f t).length = xs.length := by simp [mvL]
theorem mvL_ix {xs : List Int} {f t : Int} {j : Nat} (h : j < xs.length) : ix (mvL xs f t) j = mvTo f t xs[j] := by
  rw [ix_eq (by rw [mvL_length]; exact h)]; simp [mvL]
theorem any_bet {xs : List Int} {f t : Int} {j : Nat} (h : j < xs.length) (h2 : betB f t xs[j] = true) : xs.any (betB f t) = true := List.any_eq_true.2 ⟨_, List.getElem_mem h, h2⟩
theorem any_bet_take {xs : List Int} {f t : Int} {j : Nat} (h : j < xs.length) (h1 : (xs.take j).any (betB f t) = false) (h2 : betB f t xs[j] = false) : (xs.take (j + 1)).any (betB f t) = false := by
  rw [List.take_succ_eq_append_getElem h, List.any_append, h1]
  simp [h2]
theorem places_bd {xs : List Int} (h : placesB false xs = true) : xs.length ≤ 8 ∧ ∀ x ∈ xs, 0 ≤ x ∧ x ≤ 23 := by
  obtain ⟨h1, h2⟩ := of_decide_eq_true h
  refine ⟨h2, fun x hx => ?_⟩
  obtain ⟨i, hi, rfl⟩ := List.getElem_of_mem hx
  have := h1 i hi hi
  exact ⟨this.1, this.2.1⟩
theorem onceL_last (ys : List Int) : ∀ j, 0 < j → j ≤ ys.length → 0 < (onceL ys ys j).length ∧ (onceL ys ys j).getD ((onceL ys ys j).length - 1) 0 = ix ys (j - 1)
  | 0, h, _ => by omega
  | j + 1, _, hj => by
    cases hb : keepB ys j with
    | true =>
      rw [onceL_yes hb]
      refine ⟨by simp, ?_⟩
      simp [List.getD_eq_getElem?_getD]
    | false =>
      rw [onceL_no hb]
      have h0 : 0 < j := by
        rcases Nat.eq_zero_or_pos j with h | h
        · subst h; simp [keepB] at hb
        · exact h
      have h1 := onceL_last ys j h0 (by omega)
      refine ⟨h1.1, ?_⟩
      rw [h1.2]
      unfold keepB at hb
      rw [Bool.or_eq_false_iff] at hb
      have h2 := hb.2
      simp only [bne_eq_false_iff_eq] at h2
      rw [Nat.add_sub_cancel]
      exact h2.symm
theorem Ints.cells9 {w : World} {S : Nat → Prop} {A : Option Addr} {n c : Nat} {xs : List Int} (h : Ints w S (.slice A n c) xs) (hp : 0 < xs.length) : ∃ b o, A = some ⟨b, o, none⟩ ∧ S b ∧ b < w.heap.size ∧ ∀ t, t < xs.length → w.cell? ⟨b, o + t, none⟩ = some (.int .i64 (xs.getD t 0)) ∧ w.frozen? ⟨b, o + t, none⟩ = false := by
  obtain ⟨A', c', he, h1, h2, h3, h4, h5⟩ := h
  obtain ⟨rfl, rfl, rfl⟩ : A = A' ∧ n = xs.length ∧ c = c' := by simpa using he
  obtain ⟨b, o, hA, hS, hb, hc⟩ := h4 hp
  refine ⟨b, o, hA, hS, hb, fun t ht => ?_⟩
  have := hc t ht
  rw [List.getD_eq_getElem?_getD, List.getElem?_eq_getElem ht, Option.getD_some]
  exact this
theorem OwnI.some_ {w : World} {base : Nat} {v : Value} {xs : List Int} (h : OwnI w base v xs) (hp : 0 < xs.length) : ∃ g c, v = .slice (some ⟨g, 0, none⟩) xs.length c := by
  rcases h.1.2 with ⟨_, h0⟩ | ⟨g, cap, cur, hv, _⟩
  · omega
  · exact ⟨g, cap, hv⟩
set_option maxHeartbeats 1000000 in
theorem l00Has_any (w : World) (S : Nat → Prop) (v : Value) (xs : List Int) (x : Int) (h : Ints w S v xs) :
    Calls Try.prog 63 #[v, .int .i64 x] w fun e w' => e = .returned (.bool (decide (x ∈ xs))) ∧ w = w' := by
  obtain ⟨A, c, rfl, hlc, hcm, -⟩ := h.shape
  have H := Lib.hid h
  clear h
  go_enter Try.func63, Try.ntmps63
  go_wp2
  go_loop [5] (fun i => ∃ j : Nat, j ≤ xs.length ∧ i = .int .i64 j ∧ Hid (x ∉ xs.take j)) (fun i => xs.length - (intOf i).toNat)
  case atStart => exact ⟨0, by omega, rfl, by simp [Hid]⟩
  case round =>
    obtain ⟨j, hj, rfl, hno⟩ := hrel
    by_cases hlt : j < xs.length
    · obtain ⟨b1, o1, rfl, -, hc⟩ := H.out.ix hlt
      have f1 := hc j hlt
      rw [ix_eq hlt] at f1
      clear hc
      by_cases he : xs[j] = x
      · have HM := Lib.hid (show decide (x ∈ xs) = true from decide_eq_true (he ▸ List.getElem_mem hlt))
        rw [he] at f1
        have e1 : (x == x) = true := by simp
        clear he
        go_wp2
        go_ret
        exact ⟨ret_bool HM.out.symm, rfl⟩
      · have e1 : (xs[j] == x) = false := by simpa using he
        have HE := Lib.hid he
        clear he
        go_wp2
        go_round
        case rel => exact ⟨j + 1, by omega, by go_num, by show x ∉ _; rw [List.take_succ_eq_append_getElem hlt]; intro hm; rcases List.mem_append.1 hm with hm | hm; exact hno.out hm; exact HE.out (by simpa [eq_comm] using hm)⟩
        case measure => simp [intOf]; omega
    · obtain rfl : j = xs.length := by omega
      have HM := Lib.hid (show decide (x ∈ xs) = false from decide_eq_false (by have := hno.out; rwa [List.take_length] at this))
      go_wp2
      go_ret
      exact ⟨ret_bool HM.out.symm, rfl⟩
set_option linter.unusedVariables false in
set_option maxRecDepth 100000 in
set_option maxHeartbeats 8000000 in
theorem ApplyMove_any (w : World) (S : Nat → Prop) (v : Value) (xs : List Int) (f t : Int) (h : Ints w S v xs) :
    Calls Try.prog 14 #[v, .agg #[.int .i64 f, .int .i64 t]] w fun e w' => ∃ v', e = .returned (.tuple #[v', .int .i64 (appCode xs f t)]) ∧ Ints w' (New w.heap.size w'.heap.size) v' (appOut xs f t) ∧ Up w w' := by
  obtain ⟨A, c, rfl, hlc, hcm, -⟩ := h.shape
  have H := Lib.hid h
  clear h
  have U0 := Lib.hid (Chg.refl Nowhere w)
  cases hp : placesB false xs with
  | false =>
    have HP := Lib.hid hp
    have HE := Lib.hid (appCode_a (f := f) (t := t) hp)
    have HO := Lib.hid (appOut_no HE.out (by omega))
    clear hp
    have U_1 := Lib.hid (Chg.trans U0.out ((Chg.refl Nowhere w).alloc (.cells #[.int .i64 f, .int .i64 t] 28)))
    clear U0
    have J_2 := Lib.hid (H.out.up ((Chg.refl Nowhere w).alloc (.cells #[.int .i64 f, .int .i64 t] 28)))
    clear H
    have q0_3 := (show (w.alloc (.cells #[.int .i64 f, .int .i64 t] 28)).cell? ⟨w.heap.size, 0, none⟩ = some (.int .i64 f) from cell_new _ _ _ _)
    have q1_4 := (show (w.alloc (.cells #[.int .i64 f, .int .i64 t] 28)).cell? ⟨w.heap.size, 1, none⟩ = some (.int .i64 t) from cell_new _ _ _ _)
    have hbx5 : w.heap.size < (w.alloc (.cells #[.int .i64 f, .int .i64 t] 28)).heap.size := by simp
    go_enter Try.func14, Try.ntmps14
    go_wp2_with fail
    refine (ValidPlaces_any _ S _ xs (J_2.out.up (by repeat (first | exact Chg.refl _ _ | apply Chg.drew | apply Chg.drewN | refine Chg.alloc ?_ _)))).mono ?_
    rintro e w' ⟨rfl, rfl⟩
    rw [HP.out]
    go_wp2
    go_ret2
    exact ⟨_, ret_mi HE.out.symm, by rw [HO.out]; exact Ints.nil _ _ _ _ (by omega), (Chg.trans U_1.out (by repeat (first | exact Chg.refl _ _ | apply Chg.drew | apply Chg.drewN | refine Chg.alloc ?_ _)))⟩
  | true =>
    have HP := Lib.hid hp
    by_cases hm : isMoveP f t
    rotate_left
    · have HT := Lib.hid (decide_eq_false hm)
      have HE := Lib.hid (appCode_b hp hm)
      have HO := Lib.hid (appOut_no HE.out (by omega))
      clear hp hm
      have U_7 := Lib.hid (Chg.trans U0.out ((Chg.refl Nowhere w).alloc (.cells #[.int .i64 f, .int .i64 t] 28)))
      clear U0
      have J_8 := Lib.hid (H.out.up ((Chg.refl Nowhere w).alloc (.cells #[.int .i64 f, .int .i64 t] 28)))
      clear H
      have q0_9 := (show (w.alloc (.cells #[.int .i64 f, .int .i64 t] 28)).cell? ⟨w.heap.size, 0, none⟩ = some (.int .i64 f) from cell_new _ _ _ _)
      have q1_10 := (show (w.alloc (.cells #[.int .i64 f, .int .i64 t] 28)).cell? ⟨w.heap.size, 1, none⟩ = some (.int .i64 t) from cell_new _ _ _ _)
      have hbx11 : w.heap.size < (w.alloc (.cells #[.int .i64 f, .int .i64 t] 28)).heap.size := by simp
      go_enter Try.func14, Try.ntmps14
      go_wp2_with fail
      refine (ValidPlaces_any _ S _ xs (J_8.out.up (by repeat (first | exact Chg.refl _ _ | apply Chg.drew | apply Chg.drewN | refine Chg.alloc ?_ _)))).mono ?_
      rintro e w' ⟨rfl, rfl⟩
      rw [HP.out]
      go_wp2_with fail
      refine (isMove_any _ f t).mono ?_
      rintro e w13 ⟨rfl, g1⟩
      have G1 := Lib.hid g1
      have hz13 := G1.out.size
      clear g1
      have U_14 := Lib.hid (Chg.trans U_7.out (Chg.trans (by repeat (first | exact Chg.refl _ _ | apply Chg.drew | apply Chg.drewN | refine Chg.alloc ?_ _)) G1.out))
      clear U_7
      have J_15 := Lib.hid (J_8.out.up (Chg.trans (by repeat (first | exact Chg.refl _ _ | apply Chg.drew | apply Chg.drewN | refine Chg.alloc ?_ _)) G1.out))
      clear J_8
      have q0_16 := Chg.cell (Chg.trans (by repeat (first | exact Chg.refl _ _ | apply Chg.drew | apply Chg.drewN | refine Chg.alloc ?_ _)) G1.out) q0_9 id
      clear q0_9
      have q1_17 := Chg.cell (Chg.trans (by repeat (first | exact Chg.refl _ _ | apply Chg.drew | apply Chg.drewN | refine Chg.alloc ?_ _)) G1.out) q1_10 id
      clear q1_10
      clear G1
      rw [HT.out]
      go_wp2
      go_ret2
      exact ⟨_, ret_mi HE.out.symm, by rw [HO.out]; exact Ints.nil _ _ _ _ (by omega), (Chg.trans U_14.out (by repeat (first | exact Chg.refl _ _ | apply Chg.drew | apply Chg.drewN | refine Chg.alloc ?_ _)))⟩
    have HT := Lib.hid (decide_eq_true hm)
    by_cases hs : f ∈ xs
    rotate_left
    · have HS := Lib.hid (decide_eq_false hs)
      have HE := Lib.hid (appCode_c hp hm hs)
      have HO := Lib.hid (appOut_no HE.out (by omega))
      clear hp hm hs
      have U_18 := Lib.hid (Chg.trans U0.out ((Chg.refl Nowhere w).alloc (.cells #[.int .i64 f, .int .i64 t] 28)))
      clear U0
      have J_19 := Lib.hid (H.out.up ((Chg.refl Nowhere w).alloc (.cells #[.int .i64 f, .int .i64 t] 28)))
      clear H
      have q0_20 := (show (w.alloc (.cells #[.int .i64 f, .int .i64 t] 28)).cell? ⟨w.heap.size, 0, none⟩ = some (.int .i64 f) from cell_new _ _ _ _)
      have q1_21 := (show (w.alloc (.cells #[.int .i64 f, .int .i64 t] 28)).cell? ⟨w.heap.size, 1, none⟩ = some (.int .i64 t) from cell_new _ _ _ _)
      have hbx22 : w.heap.size < (w.alloc (.cells #[.int .i64 f, .int .i64 t] 28)).heap.size := by simp
      go_enter Try.func14, Try.ntmps14
      go_wp2_with fail
      refine (ValidPlaces_any _ S _ xs (J_19.out.up (by repeat (first | exact Chg.refl _ _ | apply Chg.drew | apply Chg.drewN | refine Chg.alloc ?_ _)))).mono ?_
      rintro e w' ⟨rfl, rfl⟩
      rw [HP.out]
      go_wp2_with fail
      refine (isMove_any _ f t).mono ?_
      rintro e w24 ⟨rfl, g1⟩
      have G1 := Lib.hid g1
      have hz24 := G1.out.size
      clear g1
      have U_25 := Lib.hid (Chg.trans U_18.out (Chg.trans (by repeat (first | exact Chg.refl _ _ | apply Chg.drew | apply Chg.drewN | refine Chg.alloc ?_ _)) G1.out))
      clear U_18
      have J_26 := Lib.hid (J_19.out.up (Chg.trans (by repeat (first | exact Chg.refl _ _ | apply Chg.drew | apply Chg.drewN | refine Chg.alloc ?_ _)) G1.out))
      clear J_19
      have q0_27 := Chg.cell (Chg.trans (by repeat (first | exact Chg.refl _ _ | apply Chg.drew | apply Chg.drewN | refine Chg.alloc ?_ _)) G1.out) q0_20 id
      clear q0_20
      have q1_28 := Chg.cell (Chg.trans (by repeat (first | exact Chg.refl _ _ | apply Chg.drew | apply Chg.drewN | refine Chg.alloc ?_ _)) G1.out) q1_21 id
      clear q1_21
      clear G1
      rw [HT.out]
      go_wp2_with fail
      refine (contains_any _ S _ xs f (J_26.out.up (by repeat (first | exact Chg.refl _ _ | apply Chg.drew | apply Chg.drewN | refine Chg.alloc ?_ _)))).mono ?_
      rintro e w' ⟨rfl, rfl⟩
      rw [HS.out]
      go_wp2
      go_ret2
      exact ⟨_, ret_mi HE.out.symm, by rw [HO.out]; exact Ints.nil _ _ _ _ (by omega), (Chg.trans U_25.out (by repeat (first | exact Chg.refl _ _ | apply Chg.drew | apply Chg.drewN | refine Chg.alloc ?_ _)))⟩
    have HS := Lib.hid (decide_eq_true hs)
    have HM := Lib.hid hm
    have HF := Lib.hid hs
    have HPB := Lib.hid (places_bd hp)
    have hl8 := HPB.out.1
    obtain ⟨hf, ht, hft, hd⟩ := hm
    have HFT := Lib.hid hft
    clear hp hs hft
    have U_30 := Lib.hid (Chg.trans U0.out ((Chg.refl Nowhere w).alloc (.cells #[.int .i64 f, .int .i64 t] 28)))
    clear U0
    have J_31 := Lib.hid (H.out.up ((Chg.refl Nowhere w).alloc (.cells #[.int .i64 f, .int .i64 t] 28)))
    clear H
    have q0_32 := (show (w.alloc (.cells #[.int .i64 f, .int .i64 t] 28)).cell? ⟨w.heap.size, 0, none⟩ = some (.int .i64 f) from cell_new _ _ _ _)
    have q1_33 := (show (w.alloc (.cells #[.int .i64 f, .int .i64 t] 28)).cell? ⟨w.heap.size, 1, none⟩ = some (.int .i64 t) from cell_new _ _ _ _)
    have hbx34 : w.heap.size < (w.alloc (.cells #[.int .i64 f, .int .i64 t] 28)).heap.size := by simp
    go_enter Try.func14, Try.ntmps14
    go_wp2_with fail
    refine (ValidPlaces_any _ S _ xs (J_31.out.up (by repeat (first | exact Chg.refl _ _ | apply Chg.drew | apply Chg.drewN | refine Chg.alloc ?_ _)))).mono ?_
    rintro e w' ⟨rfl, rfl⟩
    rw [HP.out]
    go_wp2_with fail
    refine (isMove_any _ f t).mono ?_
    rintro e w36 ⟨rfl, g1⟩
    have G1 := Lib.hid g1
    have hz36 := G1.out.size
    clear g1
    have U_37 := Lib.hid (Chg.trans U_30.out (Chg.trans (by repeat (first | exact Chg.refl _ _ | apply Chg.drew | apply Chg.drewN | refine Chg.alloc ?_ _)) G1.out))
    clear U_30
    have J_38 := Lib.hid (J_31.out.up (Chg.trans (by repeat (first | exact Chg.refl _ _ | apply Chg.drew | apply Chg.drewN | refine Chg.alloc ?_ _)) G1.out))
    clear J_31
    have q0_39 := Chg.cell (Chg.trans (by repeat (first | exact Chg.refl _ _ | apply Chg.drew | apply Chg.drewN | refine Chg.alloc ?_ _)) G1.out) q0_32 id
    clear q0_32
    have q1_40 := Chg.cell (Chg.trans (by repeat (first | exact Chg.refl _ _ | apply Chg.drew | apply Chg.drewN | refine Chg.alloc ?_ _)) G1.out) q1_33 id
    clear q1_33
    clear G1
    rw [HT.out]
    go_wp2_with fail
    refine (contains_any _ S _ xs f (J_38.out.up (by repeat (first | exact Chg.refl _ _ | apply Chg.drew | apply Chg.drewN | refine Chg.alloc ?_ _)))).mono ?_
    rintro e w' ⟨rfl, rfl⟩
    rw [HS.out]
    have M0 := Lib.hid (OwnI.made w36 w36.heap.size (Nat.le_refl _))
    have hII : I64 t := by unfold I64; omega
    go_wp2
    go_loopw [6, 25] (fun v i wr => ∃ j : Nat, j ≤ xs.length ∧ i = .int .i64 j ∧ Hid (OwnI wr w36.heap.size v (mvL (xs.take j) f t)) ∧ Hid (Up w36 wr) ∧ Hid ((xs.take j).any (betB f t) = false) ∧ Hid (∃ g c, v = .slice (some ⟨g, 0, none⟩) (mvL (xs.take j) f t).length c)) (fun _ i _ => xs.length - (intOf i).toNat)
    case atStart => exact ⟨0, by omega, rfl, M0.out, (Chg.refl _ _).alloc _, by simp [Hid], ⟨_, _, rfl⟩⟩
    case round =>
      obtain ⟨j, hj, rfl, ho, hg, hno, hsh⟩ := hrel
      by_cases hlt : j < xs.length
      · obtain ⟨b1, o1, rfl, -, hc⟩ := J_38.out.ix hlt
        have f1 := Chg.cell hg.out (hc j hlt) id
        rw [ix_eq hlt] at f1
        clear hc
        have hgz := hg.out.size
        have g0 := Chg.cell hg.out q0_39 id
        have g1 := Chg.cell hg.out q1_40 id
        obtain ⟨x, hx⟩ : ∃ x, xs[j] = x := ⟨_, rfl⟩
        rw [hx] at f1
        have hx1 := HPB.out.2 x (hx ▸ List.getElem_mem hlt)
        have HX := Lib.hid hx
        clear hx
        have hbw : w.heap.size < wr.heap.size := by omega
        by_cases hb : betB f t x = true
        · have HE := Lib.hid (appCode_d HP.out HM.out HF.out (any_bet hlt (HX.out ▸ hb)))
          have HO := Lib.hid (appOut_no HE.out (by omega))
          have hbb := of_decide_eq_true hb
          have hxf : (x == f) = false := by simp; omega
          clear hb
          rcases hbb with ⟨h1, h2⟩ | ⟨h1, h2⟩
          · skip
            have d1 : decide (f < x) = true := decide_eq_true (by omega)
            have d2 : decide (x ≤ t) = true := decide_eq_true (by omega)
            have d3 : decide (t < x) = false := decide_eq_false (by omega)
            have d4 : decide (x < f) = false := decide_eq_false (by omega)
            go_wp2
            try (go_quiet (fail); go_wp2)
            go_ret2
            exact ⟨_, ret_mi HE.out.symm, by rw [HO.out]; exact Ints.nil _ _ _ _ (by omega), Chg.trans (Chg.trans U_37.out (by repeat (first | exact Chg.refl _ _ | apply Chg.drew | apply Chg.drewN | refine Chg.alloc ?_ _))) (Chg.trans hg.out (by repeat (first | exact Chg.refl _ _ | apply Chg.drew | apply Chg.drewN | refine Chg.alloc ?_ _)))⟩
          · skip
            have d1 : decide (f < x) = false := decide_eq_false (by omega)
            have d2 : decide (x ≤ t) = false := decide_eq_false (by omega)
            have d3 : decide (t < x) = true := decide_eq_true (by omega)
            have d4 : decide (x < f) = true := decide_eq_true (by omega)
            go_wp2
            try (go_quiet (fail); go_wp2)
            go_ret2
            exact ⟨_, ret_mi HE.out.symm, by rw [HO.out]; exact Ints.nil _ _ _ _ (by omega), Chg.trans (Chg.trans U_37.out (by repeat (first | exact Chg.refl _ _ | apply Chg.drew | apply Chg.drewN | refine Chg.alloc ?_ _))) (Chg.trans hg.out (by repeat (first | exact Chg.refl _ _ | apply Chg.drew | apply Chg.drewN | refine Chg.alloc ?_ _)))⟩
        have hb' : betB f t x = false := by simpa using hb
        have HB := Lib.hid hb'
        have hbb : ¬ ((f < x ∧ x ≤ t) ∨ (t < x ∧ x < f)) := of_decide_eq_false hb'
        clear hb hb'
        obtain ⟨y, hy⟩ : ∃ y, mvTo f t x = y := ⟨_, rfl⟩
        have HY := Lib.hid hy
        have hyb : -100 ≤ y ∧ y ≤ 100 := by rw [← hy]; unfold mvTo; split <;> omega
        have hcase : (f = x ∧ t = y) ∨ (x ≠ f ∧ y = x) := by rw [← hy]; unfold mvTo; by_cases h : x = f; exact .inl ⟨h.symm, (if_pos h).symm⟩; exact .inr ⟨h, if_neg h⟩
        clear hy
        have HYI := Lib.hid (show I64 y by unfold I64; omega)
        have HL := Lib.hid (show (mvL (xs.take j) f t).length ≤ 1099511627776 by rw [mvL_length, List.length_take]; omega)
        have HT1 := Lib.hid (show mvL (xs.take (j + 1)) f t = mvL (xs.take j) f t ++ [y] by unfold mvL; rw [List.take_succ_eq_append_getElem hlt, List.map_append, List.map_singleton, HX.out, HY.out])
        rcases hcase with ⟨rfl, rfl⟩ | ⟨hne, rfl⟩
        · skip
          have e1 : (f == f) = true := by simp
          have d1 : decide (f < f) = false := decide_eq_false (by omega)
          rcases (show t < f ∨ f < t by have := HFT.out; omega) with hd1 | hd1
          all_goals
            first | (have d3 : decide (t < f) = true := decide_eq_true (by omega)) | (have d3 : decide (t < f) = false := decide_eq_false (by omega))
            go_wp2_with (first | (at_builtin; refine wp_append_int rfl _ _ rfl w36.heap.size _ (mvL (xs.take j) f t) rfl (ho.out.alloc _) _ (t) rfl (cell_new _ _ _ _) HYI.out HL.out ?_ ?_; (simp; omega); intro v7 w7 ho1 _ hg1; have HO1 := Lib.hid ho1; have HG1 := Lib.hid (Chg.new (hg.out.alloc _) hg1 (fun i hi => by omega)); clear ho1 hg1))
            go_roundw
            case rel => exact ⟨j + 1, by omega, by go_num, by rw [HT1.out]; exact HO1.out, HG1.out, any_bet_take hlt hno.out (by rw [HX.out]; exact HB.out), by rw [HT1.out]; exact OwnI.some_ HO1.out (by simp)⟩
            case measure => first | (simp [intOf]; done) | (simp [intOf]; omega)
        · skip
          have e1 : (y == f) = false := by simpa using hne
          have HNE := Lib.hid hne
          have d0 : (f < y ∧ t < y) ∨ (y < f ∧ y ≤ t) := by have := HFT.out; omega
          clear hne
          rcases d0 with ⟨h1, h2⟩ | ⟨h1, h2⟩
          · skip
            have d1 : decide (f < y) = true := decide_eq_true h1
            have d2 : decide (y ≤ t) = false := decide_eq_false (by omega)
            have d3 : decide (t < y) = true := decide_eq_true h2
            have d4 : decide (y < f) = false := decide_eq_false (by omega)
            go_wp2_with (first | (at_builtin; refine wp_append_int rfl _ _ rfl w36.heap.size _ (mvL (xs.take j) f t) rfl (ho.out.alloc _) _ (y) rfl (cell_new _ _ _ _) HYI.out HL.out ?_ ?_; (simp; omega); intro v7 w7 ho1 _ hg1; have HO1 := Lib.hid ho1; have HG1 := Lib.hid (Chg.new (hg.out.alloc _) hg1 (fun i hi => by omega)); clear ho1 hg1))
            go_roundw
            case rel => exact ⟨j + 1, by omega, by go_num, by rw [HT1.out]; exact HO1.out, HG1.out, any_bet_take hlt hno.out (by rw [HX.out]; exact HB.out), by rw [HT1.out]; exact OwnI.some_ HO1.out (by simp)⟩
            case measure => first | (simp [intOf]; done) | (simp [intOf]; omega)
          · skip
            have d1 : decide (f < y) = false := decide_eq_false (by omega)
            have d3 : decide (t < y) = false := decide_eq_false (by omega)
            go_wp2_with (first | (at_builtin; refine wp_append_int rfl _ _ rfl w36.heap.size _ (mvL (xs.take j) f t) rfl (ho.out.alloc _) _ (y) rfl (cell_new _ _ _ _) HYI.out HL.out ?_ ?_; (simp; omega); intro v7 w7 ho1 _ hg1; have HO1 := Lib.hid ho1; have HG1 := Lib.hid (Chg.new (hg.out.alloc _) hg1 (fun i hi => by omega)); clear ho1 hg1))
            go_roundw
            case rel => exact ⟨j + 1, by omega, by go_num, by rw [HT1.out]; exact HO1.out, HG1.out, any_bet_take hlt hno.out (by rw [HX.out]; exact HB.out), by rw [HT1.out]; exact OwnI.some_ HO1.out (by simp)⟩
            case measure => first | (simp [intOf]; done) | (simp [intOf]; omega)
      · obtain rfl : j = xs.length := by omega
        have hno' : xs.any (betB f t) = false := by have := hno.out; rwa [List.take_length] at this
        have HE := Lib.hid (appCode_e HP.out HM.out HF.out hno')
        have HO := Lib.hid (appOut_yes HE.out)
        clear hno'
        have hgz := hg.out.size
        rw [List.take_length] at ho hsh
        obtain ⟨g, cc, rfl⟩ := hsh.out
        have hml := mvL_length xs f t
        have HML := Lib.hid hml
        have hmle : (mvL xs f t).length ≤ 1000000 := by omega
        clear hml
        go_wp2_with fail
        refine (compact_any _ w36.heap.size _ (mvL xs f t) (ho.out.up (by repeat (first | exact Chg.refl _ _ | apply Chg.drew | apply Chg.drewN | refine Chg.alloc ?_ _))) hmle ⟨_, _, rfl⟩).mono ?_
        rintro e w9 ⟨v9, rfl, k9, g9⟩
        have K9 := Lib.hid k9
        have HG9 := Lib.hid (Chg.new (Chg.trans (Chg.trans U_37.out (by repeat (first | exact Chg.refl _ _ | apply Chg.drew | apply Chg.drewN | refine Chg.alloc ?_ _))) (Chg.trans hg.out (by repeat (first | exact Chg.refl _ _ | apply Chg.drew | apply Chg.drewN | refine Chg.alloc ?_ _)))) g9 (fun i hi h2 => by have := (ho.out.1.lt _ h2).1; omega))
        clear k9 g9
        go_wp2
        go_ret2
        exact ⟨_, ret_mi HE.out.symm, by rw [HO.out]; have := K9.out; rw [HML.out] at this; exact this.mono (fun b _ hb => ⟨by have := hb.1; omega, hb.2⟩), HG9.out⟩
set_option linter.unusedVariables false in
set_option maxRecDepth 100000 in
set_option maxHeartbeats 8000000 in
theorem sApplyMove_any (w : World) (S : Nat → Prop) (v : Value) (xs : List Int) (f t : Int) (h : Ints w S v xs) :
    Calls Try.prog 11 #[v, .agg #[.int .i64 f, .int .i64 t]] w fun e w' => ∃ v', e = .returned (.tuple #[v', .int .i64 (appCode xs f t)]) ∧ Ints w' (New w.heap.size w'.heap.size) v' (appOut xs f t) ∧ Up w w' := by
  obtain ⟨A, c, rfl, hlc, hcm, -⟩ := h.shape
  have H := Lib.hid h
  clear h
  have U0 := Lib.hid (Chg.refl Nowhere w)
  cases hp : placesB false xs with
  | false =>
    have HP := Lib.hid hp
    have HE := Lib.hid (appCode_a (f := f) (t := t) hp)
    have HO := Lib.hid (appOut_no HE.out (by omega))
    clear hp
    have U_1 := Lib.hid (Chg.trans U0.out ((Chg.refl Nowhere w).alloc (.cells #[.int .i64 f, .int .i64 t] 28)))
    clear U0
    have J_2 := Lib.hid (H.out.up ((Chg.refl Nowhere w).alloc (.cells #[.int .i64 f, .int .i64 t] 28)))
    clear H
    have q0_3 := (show (w.alloc (.cells #[.int .i64 f, .int .i64 t] 28)).cell? ⟨w.heap.size, 0, none⟩ = some (.int .i64 f) from cell_new _ _ _ _)
    have q1_4 := (show (w.alloc (.cells #[.int .i64 f, .int .i64 t] 28)).cell? ⟨w.heap.size, 1, none⟩ = some (.int .i64 t) from cell_new _ _ _ _)
    have hbx5 : w.heap.size < (w.alloc (.cells #[.int .i64 f, .int .i64 t] 28)).heap.size := by simp
    go_enter Try.func11, Try.ntmps11
    go_wp2_with fail
    refine (l21Places_any _ S _ xs false (J_2.out.up (by repeat (first | exact Chg.refl _ _ | apply Chg.drew | apply Chg.drewN | refine Chg.alloc ?_ _)))).mono ?_
    rintro e w6 ⟨rfl, g1⟩
    have G1 := Lib.hid g1.up
    have hz6 := G1.out.size
    clear g1
    have U_7 := Lib.hid (Chg.trans U_1.out (Chg.trans (by repeat (first | exact Chg.refl _ _ | apply Chg.drew | apply Chg.drewN | refine Chg.alloc ?_ _)) G1.out))
    clear U_1
    have J_8 := Lib.hid (J_2.out.up (Chg.trans (by repeat (first | exact Chg.refl _ _ | apply Chg.drew | apply Chg.drewN | refine Chg.alloc ?_ _)) G1.out))
    clear J_2
    have q0_9 := Chg.cell (Chg.trans (by repeat (first | exact Chg.refl _ _ | apply Chg.drew | apply Chg.drewN | refine Chg.alloc ?_ _)) G1.out) q0_3 id
    clear q0_3
    have q1_10 := Chg.cell (Chg.trans (by repeat (first | exact Chg.refl _ _ | apply Chg.drew | apply Chg.drewN | refine Chg.alloc ?_ _)) G1.out) q1_4 id
    clear q1_4
    clear G1
    rw [HP.out]
    have hbz : w.heap.size < w6.heap.size := by have := hz6; simp at this; omega
    go_wp2
    go_ret2
    exact ⟨_, ret_mi HE.out.symm, by rw [HO.out]; exact Ints.nil _ _ _ _ (by omega), (Chg.trans U_7.out (by repeat (first | exact Chg.refl _ _ | apply Chg.drew | apply Chg.drewN | refine Chg.alloc ?_ _)))⟩
  | true =>
    have HP := Lib.hid hp
    by_cases hm : isMoveP f t
    rotate_left
    · have HT := Lib.hid (decide_eq_false hm)
      have HE := Lib.hid (appCode_b hp hm)
      have HO := Lib.hid (appOut_no HE.out (by omega))
      clear hp hm
      have U_11 := Lib.hid (Chg.trans U0.out ((Chg.refl Nowhere w).alloc (.cells #[.int .i64 f, .int .i64 t] 28)))
      clear U0
      have J_12 := Lib.hid (H.out.up ((Chg.refl Nowhere w).alloc (.cells #[.int .i64 f, .int .i64 t] 28)))
      clear H
      have q0_13 := (show (w.alloc (.cells #[.int .i64 f, .int .i64 t] 28)).cell? ⟨w.heap.size, 0, none⟩ = some (.int .i64 f) from cell_new _ _ _ _)
      have q1_14 := (show (w.alloc (.cells #[.int .i64 f, .int .i64 t] 28)).cell? ⟨w.heap.size, 1, none⟩ = some (.int .i64 t) from cell_new _ _ _ _)
      have hbx15 : w.heap.size < (w.alloc (.cells #[.int .i64 f, .int .i64 t] 28)).heap.size := by simp
      go_enter Try.func11, Try.ntmps11
      go_wp2_with fail
      refine (l21Places_any _ S _ xs false (J_12.out.up (by repeat (first | exact Chg.refl _ _ | apply Chg.drew | apply Chg.drewN | refine Chg.alloc ?_ _)))).mono ?_
      rintro e w16 ⟨rfl, g1⟩
      have G1 := Lib.hid g1.up
      have hz16 := G1.out.size
      clear g1
      have U_17 := Lib.hid (Chg.trans U_11.out (Chg.trans (by repeat (first | exact Chg.refl _ _ | apply Chg.drew | apply Chg.drewN | refine Chg.alloc ?_ _)) G1.out))
      clear U_11
      have J_18 := Lib.hid (J_12.out.up (Chg.trans (by repeat (first | exact Chg.refl _ _ | apply Chg.drew | apply Chg.drewN | refine Chg.alloc ?_ _)) G1.out))
      clear J_12
      have q0_19 := Chg.cell (Chg.trans (by repeat (first | exact Chg.refl _ _ | apply Chg.drew | apply Chg.drewN | refine Chg.alloc ?_ _)) G1.out) q0_13 id
      clear q0_13
      have q1_20 := Chg.cell (Chg.trans (by repeat (first | exact Chg.refl _ _ | apply Chg.drew | apply Chg.drewN | refine Chg.alloc ?_ _)) G1.out) q1_14 id
      clear q1_14
      clear G1
      rw [HP.out]
      have hbz : w.heap.size < w16.heap.size := by have := hz16; simp at this; omega
      go_wp2_with fail
      refine (l21Move_any _ f t).mono ?_
      rintro e w21 ⟨rfl, g1⟩
      have G1 := Lib.hid g1
      have hz21 := G1.out.size
      clear g1
      have U_22 := Lib.hid (Chg.trans U_17.out (Chg.trans (by repeat (first | exact Chg.refl _ _ | apply Chg.drew | apply Chg.drewN | refine Chg.alloc ?_ _)) G1.out))
      clear U_17
      have J_23 := Lib.hid (J_18.out.up (Chg.trans (by repeat (first | exact Chg.refl _ _ | apply Chg.drew | apply Chg.drewN | refine Chg.alloc ?_ _)) G1.out))
      clear J_18
      have q0_24 := Chg.cell (Chg.trans (by repeat (first | exact Chg.refl _ _ | apply Chg.drew | apply Chg.drewN | refine Chg.alloc ?_ _)) G1.out) q0_19 id
      clear q0_19
      have q1_25 := Chg.cell (Chg.trans (by repeat (first | exact Chg.refl _ _ | apply Chg.drew | apply Chg.drewN | refine Chg.alloc ?_ _)) G1.out) q1_20 id
      clear q1_20
      clear G1
      rw [HT.out]
      go_wp2
      go_ret2
      exact ⟨_, ret_mi HE.out.symm, by rw [HO.out]; exact Ints.nil _ _ _ _ (by omega), (Chg.trans U_22.out (by repeat (first | exact Chg.refl _ _ | apply Chg.drew | apply Chg.drewN | refine Chg.alloc ?_ _)))⟩
    have HT := Lib.hid (decide_eq_true hm)
    by_cases hs : f ∈ xs
    rotate_left
    · have HS := Lib.hid (decide_eq_false hs)
      have HE := Lib.hid (appCode_c hp hm hs)
      have HO := Lib.hid (appOut_no HE.out (by omega))
      clear hp hm hs
      have U_26 := Lib.hid (Chg.trans U0.out ((Chg.refl Nowhere w).alloc (.cells #[.int .i64 f, .int .i64 t] 28)))
      clear U0
      have J_27 := Lib.hid (H.out.up ((Chg.refl Nowhere w).alloc (.cells #[.int .i64 f, .int .i64 t] 28)))
      clear H
      have q0_28 := (show (w.alloc (.cells #[.int .i64 f, .int .i64 t] 28)).cell? ⟨w.heap.size, 0, none⟩ = some (.int .i64 f) from cell_new _ _ _ _)
      have q1_29 := (show (w.alloc (.cells #[.int .i64 f, .int .i64 t] 28)).cell? ⟨w.heap.size, 1, none⟩ = some (.int .i64 t) from cell_new _ _ _ _)
      have hbx30 : w.heap.size < (w.alloc (.cells #[.int .i64 f, .int .i64 t] 28)).heap.size := by simp
      go_enter Try.func11, Try.ntmps11
      go_wp2_with fail
      refine (l21Places_any _ S _ xs false (J_27.out.up (by repeat (first | exact Chg.refl _ _ | apply Chg.drew | apply Chg.drewN | refine Chg.alloc ?_ _)))).mono ?_
      rintro e w31 ⟨rfl, g1⟩
      have G1 := Lib.hid g1.up
      have hz31 := G1.out.size
      clear g1
      have U_32 := Lib.hid (Chg.trans U_26.out (Chg.trans (by repeat (first | exact Chg.refl _ _ | apply Chg.drew | apply Chg.drewN | refine Chg.alloc ?_ _)) G1.out))
      clear U_26
      have J_33 := Lib.hid (J_27.out.up (Chg.trans (by repeat (first | exact Chg.refl _ _ | apply Chg.drew | apply Chg.drewN | refine Chg.alloc ?_ _)) G1.out))
      clear J_27
      have q0_34 := Chg.cell (Chg.trans (by repeat (first | exact Chg.refl _ _ | apply Chg.drew | apply Chg.drewN | refine Chg.alloc ?_ _)) G1.out) q0_28 id
      clear q0_28
      have q1_35 := Chg.cell (Chg.trans (by repeat (first | exact Chg.refl _ _ | apply Chg.drew | apply Chg.drewN | refine Chg.alloc ?_ _)) G1.out) q1_29 id
      clear q1_29
      clear G1
      rw [HP.out]
      have hbz : w.heap.size < w31.heap.size := by have := hz31; simp at this; omega
      go_wp2_with fail
      refine (l21Move_any _ f t).mono ?_
      rintro e w36 ⟨rfl, g1⟩
      have G1 := Lib.hid g1
      have hz36 := G1.out.size
      clear g1
      have U_37 := Lib.hid (Chg.trans U_32.out (Chg.trans (by repeat (first | exact Chg.refl _ _ | apply Chg.drew | apply Chg.drewN | refine Chg.alloc ?_ _)) G1.out))
      clear U_32
      have J_38 := Lib.hid (J_33.out.up (Chg.trans (by repeat (first | exact Chg.refl _ _ | apply Chg.drew | apply Chg.drewN | refine Chg.alloc ?_ _)) G1.out))
      clear J_33
      have q0_39 := Chg.cell (Chg.trans (by repeat (first | exact Chg.refl _ _ | apply Chg.drew | apply Chg.drewN | refine Chg.alloc ?_ _)) G1.out) q0_34 id
      clear q0_34
      have q1_40 := Chg.cell (Chg.trans (by repeat (first | exact Chg.refl _ _ | apply Chg.drew | apply Chg.drewN | refine Chg.alloc ?_ _)) G1.out) q1_35 id
      clear q1_35
      clear G1
      rw [HT.out]
      go_wp2_with fail
      refine (l00Has_any _ S _ xs f (J_38.out.up (by repeat (first | exact Chg.refl _ _ | apply Chg.drew | apply Chg.drewN | refine Chg.alloc ?_ _)))).mono ?_
      rintro e w' ⟨rfl, rfl⟩
      rw [HS.out]
      go_wp2
      go_ret2
      exact ⟨_, ret_mi HE.out.symm, by rw [HO.out]; exact Ints.nil _ _ _ _ (by omega), (Chg.trans U_37.out (by repeat (first | exact Chg.refl _ _ | apply Chg.drew | apply Chg.drewN | refine Chg.alloc ?_ _)))⟩
    have HS := Lib.hid (decide_eq_true hs)
    have HM := Lib.hid hm
    have HF := Lib.hid hs
    have HPB := Lib.hid (places_bd hp)
    have hl8 := HPB.out.1
    obtain ⟨hf, ht, hft, hd⟩ := hm
    have HFT := Lib.hid hft
    clear hp hs hft
    have U_42 := Lib.hid (Chg.trans U0.out ((Chg.refl Nowhere w).alloc (.cells #[.int .i64 f, .int .i64 t] 28)))
    clear U0
    have J_43 := Lib.hid (H.out.up ((Chg.refl Nowhere w).alloc (.cells #[.int .i64 f, .int .i64 t] 28)))
    clear H
    have q0_44 := (show (w.alloc (.cells #[.int .i64 f, .int .i64 t] 28)).cell? ⟨w.heap.size, 0, none⟩ = some (.int .i64 f) from cell_new _ _ _ _)
    have q1_45 := (show (w.alloc (.cells #[.int .i64 f, .int .i64 t] 28)).cell? ⟨w.heap.size, 1, none⟩ = some (.int .i64 t) from cell_new _ _ _ _)
    have hbx46 : w.heap.size < (w.alloc (.cells #[.int .i64 f, .int .i64 t] 28)).heap.size := by simp
    go_enter Try.func11, Try.ntmps11
    go_wp2_with fail
    refine (l21Places_any _ S _ xs false (J_43.out.up (by repeat (first | exact Chg.refl _ _ | apply Chg.drew | apply Chg.drewN | refine Chg.alloc ?_ _)))).mono ?_
    rintro e w47 ⟨rfl, g1⟩
    have G1 := Lib.hid g1.up
    have hz47 := G1.out.size
    clear g1
    have U_48 := Lib.hid (Chg.trans U_42.out (Chg.trans (by repeat (first | exact Chg.refl _ _ | apply Chg.drew | apply Chg.drewN | refine Chg.alloc ?_ _)) G1.out))
    clear U_42
    have J_49 := Lib.hid (J_43.out.up (Chg.trans (by repeat (first | exact Chg.refl _ _ | apply Chg.drew | apply Chg.drewN | refine Chg.alloc ?_ _)) G1.out))
    clear J_43
    have q0_50 := Chg.cell (Chg.trans (by repeat (first | exact Chg.refl _ _ | apply Chg.drew | apply Chg.drewN | refine Chg.alloc ?_ _)) G1.out) q0_44 id
    clear q0_44
    have q1_51 := Chg.cell (Chg.trans (by repeat (first | exact Chg.refl _ _ | apply Chg.drew | apply Chg.drewN | refine Chg.alloc ?_ _)) G1.out) q1_45 id
    clear q1_45
    clear G1
    rw [HP.out]
    have hbz : w.heap.size < w47.heap.size := by have := hz47; simp at this; omega
    go_wp2_with fail
    refine (l21Move_any _ f t).mono ?_
    rintro e w52 ⟨rfl, g1⟩
    have G1 := Lib.hid g1
    have hz52 := G1.out.size
    clear g1
    have U_53 := Lib.hid (Chg.trans U_48.out (Chg.trans (by repeat (first | exact Chg.refl _ _ | apply Chg.drew | apply Chg.drewN | refine Chg.alloc ?_ _)) G1.out))
    clear U_48
    have J_54 := Lib.hid (J_49.out.up (Chg.trans (by repeat (first | exact Chg.refl _ _ | apply Chg.drew | apply Chg.drewN | refine Chg.alloc ?_ _)) G1.out))
    clear J_49
    have q0_55 := Chg.cell (Chg.trans (by repeat (first | exact Chg.refl _ _ | apply Chg.drew | apply Chg.drewN | refine Chg.alloc ?_ _)) G1.out) q0_50 id
    clear q0_50
    have q1_56 := Chg.cell (Chg.trans (by repeat (first | exact Chg.refl _ _ | apply Chg.drew | apply Chg.drewN | refine Chg.alloc ?_ _)) G1.out) q1_51 id
    clear q1_51
    clear G1
    rw [HT.out]
    go_wp2_with fail
    refine (l00Has_any _ S _ xs f (J_54.out.up (by repeat (first | exact Chg.refl _ _ | apply Chg.drew | apply Chg.drewN | refine Chg.alloc ?_ _)))).mono ?_
    rintro e w' ⟨rfl, rfl⟩
    rw [HS.out]
    have M0 := Lib.hid (OwnI.made w52 w52.heap.size (Nat.le_refl _))
    go_wp2
    go_loopw [6, 7] (fun v i wr => ∃ j : Nat, j ≤ xs.length ∧ i = .int .i64 j ∧ Hid (OwnI wr w52.heap.size v (onceL (mvL xs f t) (mvL xs f t) j)) ∧ Hid (Up w52 wr) ∧ Hid ((xs.take j).any (betB f t) = false) ∧ Hid (∃ g c, v = .slice (some ⟨g, 0, none⟩) (onceL (mvL xs f t) (mvL xs f t) j).length c)) (fun _ i _ => xs.length - (intOf i).toNat)
    case atStart => exact ⟨0, by omega, rfl, M0.out, (Chg.refl _ _).alloc _, by simp [Hid], ⟨_, _, rfl⟩⟩
    case round =>
      obtain ⟨j, hj, rfl, ho, hg, hno, hsh⟩ := hrel
      by_cases hlt : j < xs.length
      · obtain ⟨b1, o1, rfl, -, hc⟩ := J_54.out.ix hlt
        have f1 := Chg.cell hg.out (hc j hlt) id
        rw [ix_eq hlt] at f1
        clear hc
        have hgz := hg.out.size
        have g0 := Chg.cell hg.out q0_55 id
        have g1 := Chg.cell hg.out q1_56 id
        obtain ⟨x, hx⟩ : ∃ x, xs[j] = x := ⟨_, rfl⟩
        rw [hx] at f1
        have hx1 := HPB.out.2 x (hx ▸ List.getElem_mem hlt)
        have HX := Lib.hid hx
        clear hx
        have hbw : w.heap.size < wr.heap.size := by omega
        by_cases hb : betB f t x = true
        · have HE := Lib.hid (appCode_d HP.out HM.out HF.out (any_bet hlt (HX.out ▸ hb)))
          have HO := Lib.hid (appOut_no HE.out (by omega))
          have hbb := of_decide_eq_true hb
          have hxf : (x == f) = false := by simp; omega
          clear hb
          rcases hbb with ⟨h1, h2⟩ | ⟨h1, h2⟩
          · skip
            have d1 : decide (f < t) = true := decide_eq_true (by omega)
            have d2 : decide (t < f) = false := decide_eq_false (by omega)
            have w1 : IntKind.i64.wrap (f + 1) = f + 1 := IntWalk.i64_in _ (by omega)
            go_wp2_with fail
            refine (l00In_yes _ _ _ _ (by omega)).mono ?_
            rintro e w' ⟨rfl, rfl⟩
            go_wp2
            go_ret2
            exact ⟨_, ret_mi HE.out.symm, by rw [HO.out]; exact Ints.nil _ _ _ _ (by omega), Chg.trans (Chg.trans U_53.out (by repeat (first | exact Chg.refl _ _ | apply Chg.drew | apply Chg.drewN | refine Chg.alloc ?_ _))) (Chg.trans hg.out (by repeat (first | exact Chg.refl _ _ | apply Chg.drew | apply Chg.drewN | refine Chg.alloc ?_ _)))⟩
          · skip
            have d1 : decide (t < f) = true := decide_eq_true (by omega)
            have d2 : decide (f < t) = false := decide_eq_false (by omega)
            have w1 : IntKind.i64.wrap (t + 1) = t + 1 := IntWalk.i64_in _ (by omega)
            go_wp2_with fail
            refine (l00In_yes _ _ _ _ (by omega)).mono ?_
            rintro e w' ⟨rfl, rfl⟩
            go_wp2
            go_ret2
            exact ⟨_, ret_mi HE.out.symm, by rw [HO.out]; exact Ints.nil _ _ _ _ (by omega), Chg.trans (Chg.trans U_53.out (by repeat (first | exact Chg.refl _ _ | apply Chg.drew | apply Chg.drewN | refine Chg.alloc ?_ _))) (Chg.trans hg.out (by repeat (first | exact Chg.refl _ _ | apply Chg.drew | apply Chg.drewN | refine Chg.alloc ?_ _)))⟩
        have hb' : betB f t x = false := by simpa using hb
        have HB := Lib.hid hb'
        have hbb : ¬ ((f < x ∧ x ≤ t) ∨ (t < x ∧ x < f)) := of_decide_eq_false hb'
        clear hb hb'
        obtain ⟨y, hy⟩ : ∃ y, mvTo f t x = y := ⟨_, rfl⟩
        have HY := Lib.hid hy
        have hyb : -100 ≤ y ∧ y ≤ 100 := by rw [← hy]; unfold mvTo; split <;> omega
        have hcase : (f = x ∧ t = y) ∨ (x ≠ f ∧ y = x) := by rw [← hy]; unfold mvTo; by_cases h : x = f; exact .inl ⟨h.symm, (if_pos h).symm⟩; exact .inr ⟨h, if_neg h⟩
        clear hy
        have HYI := Lib.hid (show I64 y by unfold I64; omega)
        have HIX := Lib.hid (show ix (mvL xs f t) j = y by rw [mvL_ix hlt, HX.out, HY.out])
        obtain ⟨R, hR⟩ : ∃ R, onceL (mvL xs f t) (mvL xs f t) j = R := ⟨_, rfl⟩
        have hRl := onceL_length (mvL xs f t) (mvL xs f t) j
        rw [hR] at ho hsh hRl
        have HL := Lib.hid (show R.length ≤ 1099511627776 by omega)
        obtain ⟨g, cc, hvv⟩ := hsh.out
        subst hvv
        have hk : (j = 0 ∧ keepB (mvL xs f t) j = true) ∨ (0 < j ∧ ix (mvL xs f t) (j - 1) ≠ y ∧ keepB (mvL xs f t) j = true) ∨ (0 < j ∧ ix (mvL xs f t) (j - 1) = y ∧ keepB (mvL xs f t) j = false) := by
          rcases Nat.eq_zero_or_pos j with h | h
          · exact .inl ⟨h, by unfold keepB; rw [decide_eq_true h]; rfl⟩
          · have hne : decide (j = 0) = false := decide_eq_false (by omega)
            by_cases he : ix (mvL xs f t) (j - 1) = y
            · exact .inr (.inr ⟨h, he, by unfold keepB; rw [hne, HIX.out, he]; simp⟩)
            · exact .inr (.inl ⟨h, he, by unfold keepB; rw [hne, HIX.out]; simp; exact fun hh => he hh.symm⟩)
        rcases hk with ⟨h0, hk⟩ | ⟨h0, hne, hk⟩ | ⟨h0, hne, hk⟩
        · skip
          have HT1 := Lib.hid (onceL_yes (ys := mvL xs f t) hk)
          rw [HIX.out, hR] at HT1
          have hR0 : R.length = 0 := by rw [← hR, h0]; rfl
          have l1 : ((R.length : Int) == 0) = true := by rw [hR0]; rfl
          clear hk hR hR0 h0
          rcases hcase with ⟨rfl, rfl⟩ | ⟨hne2, rfl⟩
          · skip
            have e1 : (f == f) = true := by simp
            go_wp2_with (first | (at_builtin; refine wp_append_int rfl _ _ rfl w52.heap.size _ R rfl (ho.out.alloc _) _ (t) rfl (cell_new _ _ _ _) HYI.out HL.out ?_ ?_; (simp; omega); intro v7 w7 ho1 _ hg1; have HO1 := Lib.hid ho1; have HG1 := Lib.hid (Chg.new (hg.out.alloc _) hg1 (fun i hi => by omega)); clear ho1 hg1))
            go_roundw
            case rel => exact ⟨j + 1, by omega, by go_num, by rw [HT1.out]; exact HO1.out, HG1.out, any_bet_take hlt hno.out (by rw [HX.out]; exact HB.out), by rw [HT1.out]; exact OwnI.some_ HO1.out (by simp)⟩
            case measure => first | (simp [intOf]; done) | (simp [intOf]; omega)
          · skip
            have e1 : (y == f) = false := by simpa using hne2
            have HNE := Lib.hid hne2
            rcases (show t < f ∨ f < t by have := HFT.out; omega) with hd1 | hd1
            · skip
              have d1 : decide (t < f) = true := decide_eq_true (by omega)
              have d2 : decide (f < t) = false := decide_eq_false (by omega)
              have w1 : IntKind.i64.wrap (t + 1) = t + 1 := IntWalk.i64_in _ (by omega)
              go_wp2_with fail
              refine (l00In_no _ _ _ _ (by have := HNE.out; omega)).mono ?_
              rintro e w' ⟨rfl, rfl⟩
              go_wp2_with (first | (at_builtin; refine wp_append_int rfl _ _ rfl w52.heap.size _ R rfl (ho.out.alloc _) _ (y) rfl (cell_new _ _ _ _) HYI.out HL.out ?_ ?_; (simp; omega); intro v7 w7 ho1 _ hg1; have HO1 := Lib.hid ho1; have HG1 := Lib.hid (Chg.new (hg.out.alloc _) hg1 (fun i hi => by omega)); clear ho1 hg1))
              go_roundw
              case rel => exact ⟨j + 1, by omega, by go_num, by rw [HT1.out]; exact HO1.out, HG1.out, any_bet_take hlt hno.out (by rw [HX.out]; exact HB.out), by rw [HT1.out]; exact OwnI.some_ HO1.out (by simp)⟩
              case measure => first | (simp [intOf]; done) | (simp [intOf]; omega)
            · skip
              have d1 : decide (f < t) = true := decide_eq_true (by omega)
              have d2 : decide (t < f) = false := decide_eq_false (by omega)
              have w1 : IntKind.i64.wrap (f + 1) = f + 1 := IntWalk.i64_in _ (by omega)
              go_wp2_with fail
              refine (l00In_no _ _ _ _ (by have := HNE.out; omega)).mono ?_
              rintro e w' ⟨rfl, rfl⟩
              go_wp2_with (first | (at_builtin; refine wp_append_int rfl _ _ rfl w52.heap.size _ R rfl (ho.out.alloc _) _ (y) rfl (cell_new _ _ _ _) HYI.out HL.out ?_ ?_; (simp; omega); intro v7 w7 ho1 _ hg1; have HO1 := Lib.hid ho1; have HG1 := Lib.hid (Chg.new (hg.out.alloc _) hg1 (fun i hi => by omega)); clear ho1 hg1))
              go_roundw
              case rel => exact ⟨j + 1, by omega, by go_num, by rw [HT1.out]; exact HO1.out, HG1.out, any_bet_take hlt hno.out (by rw [HX.out]; exact HB.out), by rw [HT1.out]; exact OwnI.some_ HO1.out (by simp)⟩
              case measure => first | (simp [intOf]; done) | (simp [intOf]; omega)
        · skip
          have HT1 := Lib.hid (onceL_yes (ys := mvL xs f t) hk)
          rw [HIX.out, hR] at HT1
          obtain ⟨hlp, hla⟩ := onceL_last (mvL xs f t) j h0 (by rw [mvL_length]; omega)
          rw [hR] at hlp hla
          obtain ⟨bb, oo, hA, -, hbl, hcs⟩ := Ints.cells9 ho.out.ints hlp
          obtain ⟨rfl, rfl⟩ : g = bb ∧ 0 = oo := by simpa using hA
          obtain ⟨z, hz⟩ : ∃ z, ix (mvL xs f t) (j - 1) = z := ⟨_, rfl⟩
          have fl := (hcs (R.length - 1) (by omega)).1
          rw [hla, hz, Nat.zero_add] at fl
          rw [hz] at hne
          have l1 : ((R.length : Int) == 0) = false := by rw [beq_eq_false_iff_ne]; omega
          have hll : R.length - 1 < R.length := by omega
          have hcast : ((R.length - 1 : Nat) : Int) = (R.length : Int) - 1 := by omega
          have l2 : (z != y) = true := by simpa using hne
          clear hne hz hla hcs hA hk hR
          rcases hcase with ⟨rfl, rfl⟩ | ⟨hne2, rfl⟩
          · skip
            have e1 : (f == f) = true := by simp
            go_wp2_with (first | (at_builtin; refine wp_append_int rfl _ _ rfl w52.heap.size _ R rfl (ho.out.alloc _) _ (t) rfl (cell_new _ _ _ _) HYI.out HL.out ?_ ?_; (simp; omega); intro v7 w7 ho1 _ hg1; have HO1 := Lib.hid ho1; have HG1 := Lib.hid (Chg.new (hg.out.alloc _) hg1 (fun i hi => by omega)); clear ho1 hg1))
            go_roundw
            case rel => exact ⟨j + 1, by omega, by go_num, by rw [HT1.out]; exact HO1.out, HG1.out, any_bet_take hlt hno.out (by rw [HX.out]; exact HB.out), by rw [HT1.out]; exact OwnI.some_ HO1.out (by simp)⟩
            case measure => first | (simp [intOf]; done) | (simp [intOf]; omega)
          · skip
            have e1 : (y == f) = false := by simpa using hne2
            have HNE := Lib.hid hne2
            rcases (show t < f ∨ f < t by have := HFT.out; omega) with hd1 | hd1
            · skip
              have d1 : decide (t < f) = true := decide_eq_true (by omega)
              have d2 : decide (f < t) = false := decide_eq_false (by omega)
              have w1 : IntKind.i64.wrap (t + 1) = t + 1 := IntWalk.i64_in _ (by omega)
              go_wp2_with fail
              refine (l00In_no _ _ _ _ (by have := HNE.out; omega)).mono ?_
              rintro e w' ⟨rfl, rfl⟩
              go_wp2_with (first | (at_builtin; refine wp_append_int rfl _ _ rfl w52.heap.size _ R rfl (ho.out.alloc _) _ (y) rfl (cell_new _ _ _ _) HYI.out HL.out ?_ ?_; (simp; omega); intro v7 w7 ho1 _ hg1; have HO1 := Lib.hid ho1; have HG1 := Lib.hid (Chg.new (hg.out.alloc _) hg1 (fun i hi => by omega)); clear ho1 hg1))
              go_roundw
              case rel => exact ⟨j + 1, by omega, by go_num, by rw [HT1.out]; exact HO1.out, HG1.out, any_bet_take hlt hno.out (by rw [HX.out]; exact HB.out), by rw [HT1.out]; exact OwnI.some_ HO1.out (by simp)⟩
              case measure => first | (simp [intOf]; done) | (simp [intOf]; omega)
            · skip
              have d1 : decide (f < t) = true := decide_eq_true (by omega)
              have d2 : decide (t < f) = false := decide_eq_false (by omega)
              have w1 : IntKind.i64.wrap (f + 1) = f + 1 := IntWalk.i64_in _ (by omega)
              go_wp2_with fail
              refine (l00In_no _ _ _ _ (by have := HNE.out; omega)).mono ?_
              rintro e w' ⟨rfl, rfl⟩
              go_wp2_with (first | (at_builtin; refine wp_append_int rfl _ _ rfl w52.heap.size _ R rfl (ho.out.alloc _) _ (y) rfl (cell_new _ _ _ _) HYI.out HL.out ?_ ?_; (simp; omega); intro v7 w7 ho1 _ hg1; have HO1 := Lib.hid ho1; have HG1 := Lib.hid (Chg.new (hg.out.alloc _) hg1 (fun i hi => by omega)); clear ho1 hg1))
              go_roundw
              case rel => exact ⟨j + 1, by omega, by go_num, by rw [HT1.out]; exact HO1.out, HG1.out, any_bet_take hlt hno.out (by rw [HX.out]; exact HB.out), by rw [HT1.out]; exact OwnI.some_ HO1.out (by simp)⟩
              case measure => first | (simp [intOf]; done) | (simp [intOf]; omega)
        · skip
          have HT1 := Lib.hid (onceL_no (ys := mvL xs f t) hk)
          rw [hR] at HT1
          obtain ⟨hlp, hla⟩ := onceL_last (mvL xs f t) j h0 (by rw [mvL_length]; omega)
          rw [hR] at hlp hla
          obtain ⟨bb, oo, hA, -, hbl, hcs⟩ := Ints.cells9 ho.out.ints hlp
          obtain ⟨rfl, rfl⟩ : g = bb ∧ 0 = oo := by simpa using hA
          obtain ⟨z, hz⟩ : ∃ z, ix (mvL xs f t) (j - 1) = z := ⟨_, rfl⟩
          have fl := (hcs (R.length - 1) (by omega)).1
          rw [hla, hz, Nat.zero_add] at fl
          rw [hz] at hne
          have l1 : ((R.length : Int) == 0) = false := by rw [beq_eq_false_iff_ne]; omega
          have hll : R.length - 1 < R.length := by omega
          have hcast : ((R.length - 1 : Nat) : Int) = (R.length : Int) - 1 := by omega
          have l2 : (z != y) = false := by simpa using hne
          clear hne hz hla hcs hA hk hR
          rcases hcase with ⟨rfl, rfl⟩ | ⟨hne2, rfl⟩
          · skip
            have e1 : (f == f) = true := by simp
            go_wp2
            go_roundw
            case rel => exact ⟨j + 1, by omega, by go_num, by rw [HT1.out]; first | exact ho.out | exact ho.out.up (by repeat (first | exact Chg.refl _ _ | apply Chg.drew | apply Chg.drewN | refine Chg.alloc ?_ _)), by first | exact hg.out | exact Chg.trans hg.out (by repeat (first | exact Chg.refl _ _ | apply Chg.drew | apply Chg.drewN | refine Chg.alloc ?_ _)), any_bet_take hlt hno.out (by rw [HX.out]; exact HB.out), by rw [HT1.out]; exact ⟨_, _, rfl⟩⟩
            case measure => first | (simp [intOf]; done) | (simp [intOf]; omega)
          · skip
            have e1 : (y == f) = false := by simpa using hne2
            have HNE := Lib.hid hne2
            rcases (show t < f ∨ f < t by have := HFT.out; omega) with hd1 | hd1
            · skip
              have d1 : decide (t < f) = true := decide_eq_true (by omega)
              have d2 : decide (f < t) = false := decide_eq_false (by omega)
              have w1 : IntKind.i64.wrap (t + 1) = t + 1 := IntWalk.i64_in _ (by omega)
              go_wp2_with fail
              refine (l00In_no _ _ _ _ (by have := HNE.out; omega)).mono ?_
              rintro e w' ⟨rfl, rfl⟩
              go_wp2
              go_roundw
              case rel => exact ⟨j + 1, by omega, by go_num, by rw [HT1.out]; first | exact ho.out | exact ho.out.up (by repeat (first | exact Chg.refl _ _ | apply Chg.drew | apply Chg.drewN | refine Chg.alloc ?_ _)), by first | exact hg.out | exact Chg.trans hg.out (by repeat (first | exact Chg.refl _ _ | apply Chg.drew | apply Chg.drewN | refine Chg.alloc ?_ _)), any_bet_take hlt hno.out (by rw [HX.out]; exact HB.out), by rw [HT1.out]; exact ⟨_, _, rfl⟩⟩
              case measure => first | (simp [intOf]; done) | (simp [intOf]; omega)
            · skip
              have d1 : decide (f < t) = true := decide_eq_true (by omega)
              have d2 : decide (t < f) = false := decide_eq_false (by omega)
              have w1 : IntKind.i64.wrap (f + 1) = f + 1 := IntWalk.i64_in _ (by omega)
              go_wp2_with fail
              refine (l00In_no _ _ _ _ (by have := HNE.out; omega)).mono ?_
              rintro e w' ⟨rfl, rfl⟩
              go_wp2
              go_roundw
              case rel => exact ⟨j + 1, by omega, by go_num, by rw [HT1.out]; first | exact ho.out | exact ho.out.up (by repeat (first | exact Chg.refl _ _ | apply Chg.drew | apply Chg.drewN | refine Chg.alloc ?_ _)), by first | exact hg.out | exact Chg.trans hg.out (by repeat (first | exact Chg.refl _ _ | apply Chg.drew | apply Chg.drewN | refine Chg.alloc ?_ _)), any_bet_take hlt hno.out (by rw [HX.out]; exact HB.out), by rw [HT1.out]; exact ⟨_, _, rfl⟩⟩
              case measure => first | (simp [intOf]; done) | (simp [intOf]; omega)
      · obtain rfl : j = xs.length := by omega
        have hno' : xs.any (betB f t) = false := by have := hno.out; rwa [List.take_length] at this
        have HE := Lib.hid (appCode_e HP.out HM.out HF.out hno')
        have HO := Lib.hid (appOut_yes HE.out)
        clear hno'
        go_wp2
        go_ret2
        exact ⟨_, ret_mi HE.out.symm, by rw [HO.out]; exact ho.out.ints.mono (fun b _ hb => ⟨by have := hb.1; omega, hb.2⟩), Chg.trans (Chg.trans U_53.out (by repeat (first | exact Chg.refl _ _ | apply Chg.drew | apply Chg.drewN | refine Chg.alloc ?_ _))) (Chg.trans hg.out (by repeat (first | exact Chg.refl _ _ | apply Chg.drew | apply Chg.drewN | refine Chg.alloc ?_ _)))⟩
end Go.Proofs.Ytmimbnpcokfnlaa
