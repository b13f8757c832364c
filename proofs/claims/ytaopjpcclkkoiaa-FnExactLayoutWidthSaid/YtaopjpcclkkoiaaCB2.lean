/- l15Thin, the reference's. No condition. -/
import Derived.Test.YtaopjpcclkkoiaaStk6
import Derived.Test.YtaopjpcclkkoiaaStepI
import Derived.Test.YtaopjpcclkkoiaaOrd
import Derived.Deep.RegionLaw
set_option linter.unusedSimpArgs false
set_option linter.unusedVariables false
set_option maxRecDepth 100000
set_option maxHeartbeats 1000000
namespace Go.Proofs.Ytaopjpcclkkoiaa
open Go.ChangeShapes Go.WideShapes Go.ChangeAt Go.RowKit
def sumS (xs : List Int) : Int := sumF id xs
theorem sumS_append (xs ys : List Int) : sumS (xs ++ ys) = sumS xs + sumS ys := sumF_append id xs ys
theorem sumS_bd {xs : List Int} (hb : ∀ x ∈ xs, 0 ≤ x ∧ x ≤ 1000) : 0 ≤ sumS xs ∧ sumS xs ≤ 1000 * xs.length := by
  induction xs with
  | nil => simp [sumS, sumF]
  | cons x xs ih =>
    have h1 := ih (fun y hy => hb y (List.mem_cons_of_mem _ hy))
    have h2 := hb x List.mem_cons_self
    simp only [sumS, sumF, id_eq, List.length_cons] at *
    omega
theorem sumOfS_any (w : World) (S : Nat → Prop) (v : Value) (xs : List Int) (h : Ints w S v xs) (hl : xs.length ≤ 100000) (hb : ∀ x ∈ xs, 0 ≤ x ∧ x ≤ 1000) :
    Calls Try.prog 207 #[v] w fun e w' => e = .returned (.int .i64 (sumS xs)) ∧ w = w' := by
  obtain ⟨A, c, rfl, hlc, hcm, -⟩ := h.shape
  have H := Lib.hid h
  have HB := Lib.hid hb
  clear h hb
  go_enter Try.func207, Try.ntmps207
  go_wp2
  go_loop [3, 5, 8] (fun s _ i => ∃ j : Nat, j ≤ xs.length ∧ i = .int .i64 j ∧ s = .int .i64 (sumS (xs.take j))) (fun _ _ i => xs.length - (intOf i).toNat)
  case atStart => exact ⟨0, by omega, rfl, rfl⟩
  case round =>
    obtain ⟨j, hj, rfl, rfl⟩ := hrel
    by_cases hlt : j < xs.length
    · obtain ⟨b, o, rfl, -, hc⟩ := H.out.ix hlt
      have f1 := hc j hlt
      rw [ix_eq hlt] at f1
      have hx := HB.out xs[j] (List.getElem_mem hlt)
      have hs := sumS_bd (xs := xs.take j) (fun x hx => HB.out x (List.mem_of_mem_take hx))
      have hq : (xs.take j).length ≤ 100000 := by rw [List.length_take]; omega
      have HT := Lib.hid (show sumS (xs.take (j + 1)) = sumS (xs.take j) + xs[j] by rw [List.take_succ_eq_append_getElem hlt, sumS_append]; simp [sumS, sumF])
      clear hc
      go_wp2
      go_round
      case rel => exact ⟨j + 1, by omega, by go_num, by rw [HT.out]⟩
      case measure => simp [intOf]; omega
    · obtain rfl : j = xs.length := by omega
      have HX := Lib.hid (show xs.take xs.length = xs by rw [List.take_length])
      go_wp2
      go_ret
      exact ⟨ret_int (by simp), rfl⟩

def posM (ks : List Int) (j : Nat) : Nat := (sumF madeK (ks.take j)).toNat
theorem posM_int (ks : List Int) (j : Nat) : (posM ks j : Int) = sumF madeK (ks.take j) := by
  unfold posM
  have := sumF_bd madeK 0 4 (by omega) (fun x => by have := madeK_bd x; omega) (ks.take j)
  omega
theorem posM_succ {ks : List Int} {j : Nat} (h : j < ks.length) : posM ks (j + 1) = posM ks j + (madeK ks[j]).toNat := by
  have h1 := posM_int ks j
  have h2 := posM_int ks (j + 1)
  rw [sumF_take madeK h] at h2
  have := madeK_bd ks[j]
  omega
theorem stepS_len (k a b : Int) : (stepS k a b).length = (madeK k).toNat := by
  unfold stepS
  split
  · rename_i h; subst h; rfl
  · split
    · rename_i h; subst h; rfl
    · simp
theorem aftTo_length {st ks : List Int} : ∀ {j : Nat}, j ≤ ks.length → (aftTo st ks j).length = posM ks j
  | 0, _ => rfl
  | j + 1, h => by
    rw [aftTo_succ, List.length_append, aftTo_length (by omega), posM_succ (by omega)]
    unfold stepAt
    rw [stepS_len, ix_eq (by omega)]
/-- the stacks that a stitch takes -/
def tookAt (st ks : List Int) (i : Nat) : List Int := (st.drop (posS ks i)).take (takenK (ix ks i)).toNat
def chgAt (st ks : List Int) (i : Nat) : Int := sumS (stepAt st ks i) - sumS (tookAt st ks i)
def ordI (d : Int) (n t : Nat) : Nat := if d = 1 then t else n - 1 - t
def parS (d : Int) (st ks : List Int) : Nat → Int
  | 0 => sumS st
  | t + 1 => parS d st ks t + chgAt st ks (ordI d ks.length t)
def thinTo (d : Int) (st ks : List Int) (j : Nat) : Bool := (List.range j).all fun t => decide (parS d st ks (t + 1) ≤ 12)
def thinB (d : Int) (st ks : List Int) : Bool := thinTo d st ks ks.length
theorem thinTo_succ (d : Int) (st ks : List Int) (j : Nat) : thinTo d st ks (j + 1) = (thinTo d st ks j && decide (parS d st ks (j + 1) ≤ 12)) := by
  unfold thinTo; rw [List.range_succ, List.all_append]; simp
theorem thinTo_false {d : Int} {st ks : List Int} {j n : Nat} (hj : j < n) (h : ¬ parS d st ks (j + 1) ≤ 12) : thinTo d st ks n = false := by
  unfold thinTo
  rw [Bool.eq_false_iff]
  intro hh
  have := List.all_eq_true.1 hh j (by simpa using hj)
  exact h (of_decide_eq_true this)
/-- what stands where a row fits its stacks -/
structure Fits (st ks : List Int) : Prop where
  s : stkB st = true
  k : stB ks = true
  sum : sumF takenK ks = st.length
theorem saC_fits {st ks : List Int} (h : saC st ks = 0) : Fits st ks ∧ saL st ks = aftTo st ks ks.length := by
  have hh := h
  unfold saC at h
  cases hb : (stkB st && stB ks) with
  | false => rw [hb] at h; simp at h
  | true =>
    by_cases hs : sumF takenK ks = st.length
    · rw [Bool.and_eq_true] at hb
      refine ⟨⟨hb.1, hb.2, hs⟩, ?_⟩
      unfold saL
      rw [hh, if_pos rfl]
    · rw [hb, if_pos rfl, if_neg hs] at h; omega
theorem Fits.pos {st ks : List Int} (h : Fits st ks) {i : Nat} (hi : i < ks.length) : posS ks i + (takenK ks[i]).toNat ≤ st.length := by
  have h1 := posS_succ hi
  have h2 := posS_le ks (i + 1)
  have := h.sum
  omega
theorem Fits.took {st ks : List Int} (h : Fits st ks) (i : Nat) : (tookAt st ks i).length ≤ 4 ∧ ∀ x ∈ tookAt st ks i, 0 ≤ x ∧ x ≤ 1000 := by
  refine ⟨?_, fun x hx => ?_⟩
  · unfold tookAt
    rw [List.length_take]
    have := takenK_bd (ix ks i)
    omega
  · have := stkB_bd h.s x (List.mem_of_mem_drop (List.mem_of_mem_take hx)); omega
theorem sumS_le5 : ∀ {xs : List Int}, (∀ x ∈ xs, 0 ≤ x ∧ x ≤ 5) → 0 ≤ sumS xs ∧ sumS xs ≤ 5 * xs.length
  | [], _ => by simp [sumS, sumF]
  | x :: xs, h => by
    have h1 := sumS_le5 (xs := xs) fun y hy => h y (by simp [hy])
    have h2 := h x (by simp)
    simp only [sumS, sumF, id_eq, List.length_cons] at *
    omega
theorem Fits.step {st ks : List Int} (h : Fits st ks) {i : Nat} (hi : i < ks.length) : (stepAt st ks i).length ≤ 4 ∧ ∀ x ∈ stepAt st ks i, 1 ≤ x ∧ x ≤ 5 :=
  ⟨stepS_length _ _ _, fun x hx => aftTo_bd h.s h.sum h.k (i + 1) (by omega) x (by rw [aftTo_succ]; exact List.mem_append_right _ hx)⟩
theorem Fits.chg {st ks : List Int} (h : Fits st ks) {i : Nat} (hi : i < ks.length) : -20 ≤ chgAt st ks i ∧ chgAt st ks i ≤ 20 := by
  have h1 := h.step hi
  have h2 := h.took i
  have a := sumS_le5 (xs := stepAt st ks i) fun x hx => by have := h1.2 x hx; omega
  have b := sumS_le5 (xs := tookAt st ks i) fun x hx => by have := stkB_bd h.s x (List.mem_of_mem_drop (List.mem_of_mem_take hx)); omega
  unfold chgAt
  omega
theorem Fits.par {st ks : List Int} (h : Fits st ks) (d : Int) : ∀ t, t ≤ ks.length → -20 * (t : Int) ≤ parS d st ks t ∧ parS d st ks t ≤ 40 + 20 * t
  | 0, _ => by
    have b := sumS_le5 (xs := st) fun x hx => by have := stkB_bd h.s x hx; omega
    have := stkB_len h.s
    simp only [parS]
    omega
  | t + 1, ht => by
    have ih := h.par d t (by omega)
    have hc := h.chg (i := ordI d ks.length t) (by unfold ordI; split <;> omega)
    simp only [parS]
    omega
end Go.Proofs.Ytaopjpcclkkoiaa
set_option linter.unusedSimpArgs false
set_option linter.unusedVariables false
set_option maxRecDepth 100000
set_option maxHeartbeats 400000
namespace Go.Proofs.Ytaopjpcclkkoiaa
open Go.ChangeShapes Go.WideShapes Go.ChangeAt Go.RowKit
def chgs (st ks : List Int) (j : Nat) : List Int := (List.range j).map (chgAt st ks)
theorem chgs_succ (st ks : List Int) (j : Nat) : chgs st ks (j + 1) = chgs st ks j ++ [chgAt st ks j] := by simp [chgs, List.range_succ]
theorem chgs_length (st ks : List Int) (j : Nat) : (chgs st ks j).length = j := by simp [chgs]
theorem chgs_get (st ks : List Int) {j i : Nat} (h : i < j) : ix (chgs st ks j) i = chgAt st ks i := by
  unfold ix chgs
  rw [List.getD_eq_getElem?_getD, List.getElem?_map, List.getElem?_range h]
  rfl
theorem box3 (w : World) (a b c : Value) (t : TypeId) : (w.alloc (.cells #[a, b, c] t)).cell? ⟨w.heap.size, 0, none⟩ = some a ∧ (w.alloc (.cells #[a, b, c] t)).cell? ⟨w.heap.size, 1, none⟩ = some b ∧ (w.alloc (.cells #[a, b, c] t)).cell? ⟨w.heap.size, 2, none⟩ = some c := ⟨cell_new _ _ _ _, cell_new _ _ _ _, cell_new _ _ _ _⟩
/-- the three cells of a row's own box -/
def Bx (w : World) (g : Nat) (a b c : Value) : Prop := w.cell? ⟨g, 0, none⟩ = some a ∧ w.cell? ⟨g, 1, none⟩ = some b ∧ w.cell? ⟨g, 2, none⟩ = some c
theorem Bx.keep {S : Nat → Prop} {w w' : World} {g : Nat} {a b c : Value} (h : Bx w g a b c) (k : Chg S w w') (hn : ¬ S g) : Bx w' g a b c := ⟨Chg.cell k h.1 hn, Chg.cell k h.2.1 hn, Chg.cell k h.2.2 hn⟩
theorem Bx.up {w w' : World} {g : Nat} {a b c : Value} (h : Bx w g a b c) (k : Up w w') : Bx w' g a b c := h.keep k id
theorem keepsLimit_any (w : World) (S S2 : Nat → Prop) (u : Value) (d cr0 : Int) (A2 : Option Addr) (c2 : Nat) (st ks : List Int) (h2 : Ints w S2 (.slice A2 ks.length c2) ks) (h : Ints w S u st) (hf : Fits st ks) (hd : d = 1 ∨ d = -1) (hdc : I64 cr0) :
    Calls Try.prog 181 #[.agg #[.int .i64 d, .int .i64 cr0, .slice A2 ks.length c2], u] w fun e w' => e = .returned (.bool (thinB d st ks)) ∧ Up w w' := by
  obtain ⟨A, c, rfl, hlc, hcm, -⟩ := h.shape
  obtain ⟨A9, c9, he9, hlc2, hcm2, -⟩ := h2.shape
  obtain ⟨rfl, rfl⟩ : A2 = A9 ∧ c2 = c9 := by simpa using he9
  have U0 := (Chg.refl Nowhere w).alloc (.cells #[.int .i64 d, .int .i64 cr0, .slice A2 ks.length c2] 38)
  have H := Lib.hid ((h.mono (T := fun b => b < w.heap.size) fun _ h _ => h).up U0)
  have H2 := Lib.hid ((h2.mono (T := fun b => b < w.heap.size) fun _ h _ => h).up U0)
  have hks := stB_len hf.k
  have hst := stkB_len hf.s
  have HF := Lib.hid hf
  have Hw2 := Lib.hid (h2.mono (T := fun b => b < w.heap.size) fun _ h _ => h)
  have HDC := Lib.hid hdc
  have HDI : Hid (I64 d) := Lib.hid (by rcases hd with rfl | rfl <;> (unfold I64; omega))
  have B0 := Lib.hid (show Bx (w.alloc (.cells #[.int .i64 d, .int .i64 cr0, .slice A2 ks.length c2] 38)) w.heap.size _ _ _ from box3 w _ _ _ _)
  have hz0 : (w.alloc (.cells #[.int .i64 d, .int .i64 cr0, .slice A2 ks.length c2] 38)).heap.size = w.heap.size + 1 := by simp
  have HZ0 := Lib.hid hz0
  have b2 := B0.out.2.2
  have HM := Lib.hid (show OwnI ((w.alloc (.cells #[.int .i64 d, .int .i64 cr0, .slice A2 ks.length c2] 38)).alloc (.cells #[] 2)) (w.heap.size + 1) (.slice (some ⟨w.heap.size + 1, 0, none⟩) 0 0) [] by have h := OwnI.made (w.alloc (.cells #[.int .i64 d, .int .i64 cr0, .slice A2 ks.length c2] 38)) (w.heap.size + 1) (Nat.le_of_eq hz0.symm); rw [hz0] at h; exact h)
  have b2' := Chg.cell ((Chg.refl Nowhere (w.alloc (.cells #[.int .i64 d, .int .i64 cr0, .slice A2 ks.length c2] 38))).alloc (.cells #[] 2)) b2 id
  clear h h2 hf he9 hz0 U0 hdc
  go_enter Try.func181, Try.ntmps181
  go_wp2_with fail
  refine (sumOfS_any _ _ _ st H.out (by omega) (fun x hx => by have := stkB_bd HF.out.s x hx; omega)).mono ?_
  rintro e w' ⟨rfl, rfl⟩
  go_wp2
  clear b2 b2'
  go_loopw [6, 7, 22] (fun q r i wr => ∃ (j : Nat), j ≤ ks.length ∧ i = .int .i64 j ∧ Hid (OwnI wr (w.heap.size + 1) q (chgs st ks j)) ∧ Hid (Ints wr (fun b => b < w.heap.size) r (st.drop (posS ks j))) ∧ Hid (Bx wr w.heap.size (.int .i64 d) (.int .i64 cr0) (.slice A2 ks.length c2)) ∧ Hid (Up w wr)) (fun _ _ i _ => ks.length - (intOf i).toNat)
  case atStart =>
    refine ⟨0, by omega, rfl, HM.out, H.out.up ((Chg.refl _ _).alloc _), B0.out.up ((Chg.refl _ _).alloc _), ((Chg.refl _ _).alloc _).alloc _⟩
  case round =>
    obtain ⟨j, hj, rfl, hq, hr, hb, hu⟩ := hrel
    have HZ := Lib.hid hu.out.size
    by_cases hlt : j < ks.length
    · obtain ⟨b, o, rfl, -, hc⟩ := (Hw2.out.up hu.out).ix hlt
      have f1 := hc j hlt
      rw [ix_eq hlt] at f1
      have HKJ := Lib.hid (stB_kind HF.out.k _ (List.getElem_mem hlt))
      have HPS := Lib.hid (posS_succ hlt)
      have HPT := Lib.hid (HF.out.pos hlt)
      obtain ⟨kd, HKD⟩ : ∃ kd, Hid (ks[j] = kd) := ⟨_, Lib.hid rfl⟩
      rw [HKD.out] at f1 HKJ HPS HPT
      obtain ⟨tk, HTK⟩ : ∃ tk : Nat, Hid (takenK kd = tk) := ⟨(takenK kd).toNat, Lib.hid (by have := takenK_bd kd; omega)⟩
      rw [HTK.out] at HPS HPT
      clear hc
      obtain ⟨Ar, cr, rfl, hlr, hcr, har⟩ := hr.out.shape
      have hpl : posS ks j + tk ≤ st.length := by have := HPT.out; simpa using this
      have hdl : (st.drop (posS ks j)).length = st.length - posS ks j := by simp
      have htc : tk ≤ cr := by omega
      have htc2 : (tk : Int) ≤ cr := by omega
      have htl : (tk : Int) ≤ (st.drop (posS ks j)).length := by omega
      have HTKA : Hid (tookAt st ks j = (st.drop (posS ks j)).take tk) := Lib.hid (by unfold tookAt; rw [ix_eq hlt, HKD.out, HTK.out]; simp)
      have HSTL := Lib.hid (stepS_take (st := st) (p := posS ks j) HKJ.out HTK.out.symm hpl)
      have HR := Lib.hid (show Ints wr (fun b => b < w.heap.size) (.slice Ar tk cr) (tookAt st ks j) by rw [HTKA.out]; exact hr.out.took (by omega) rfl)
      have HTL : Hid (((tookAt st ks j).length : Int) = takenK kd) := Lib.hid (by rw [HTKA.out, List.length_take, hdl, HTK.out]; omega)
      have HTLN : Hid ((tookAt st ks j).length = tk) := Lib.hid (by rw [HTKA.out, List.length_take, hdl]; omega)
      have HSA : Hid (stepAt st ks j = stepS kd (ix (tookAt st ks j) 0) (ix (tookAt st ks j) 1)) := Lib.hid (by rw [HTKA.out, HSTL.out.1]; unfold stepAt; rw [ix_eq hlt, HKD.out])
      go_wp2_with fail
      refine (ColumnsTaken_any _ _).mono ?_
      rintro e w' ⟨rfl, rfl⟩
      rw [takenOf_ok HKJ.out, HTK.out]
      go_wp2_with fail
      refine (madeStacks_any _ _ _ (tookAt st ks j) HR.out kd HKJ.out HTL.out (fun x hx => stkB_bd HF.out.s x (List.mem_of_mem_drop (List.mem_of_mem_take hx)))).mono ?_
      rintro e w2 ⟨v2, rfl, k2, g2⟩
      rw [← HSA.out] at k2
      obtain ⟨A3, c3, rfl, hl3, hc3, -⟩ := k2.shape
      have K2 := Lib.hid k2
      have G2 := Lib.hid g2
      have hz2 := g2.size
      clear k2 g2
      have HBX : Hid (w.heap.size + 1 ≤ w2.heap.size) := Lib.hid (by have h := World.block_lt_of_cell? _ _ hb.out.1; have h : w.heap.size < wr.heap.size := h; omega)
      have HQ2 := Lib.hid (hq.out.up G2.out)
      have HR2 := Lib.hid (hr.out.up G2.out)
      have HT2 := Lib.hid (HR.out.up G2.out)
      have HB2 := Lib.hid (hb.out.up G2.out)
      have hcg := HF.out.chg hlt
      have hs1 := HF.out.step hlt
      have hs2 := HF.out.took j
      have y1 : IntKind.i64.wrap (sumS (stepAt st ks j) - sumS (tookAt st ks j)) = sumS (stepAt st ks j) - sumS (tookAt st ks j) := IntWalk.i64_in _ (by unfold chgAt at hcg; omega)
      have HI : Hid (I64 (sumS (stepAt st ks j) - sumS (tookAt st ks j))) := Lib.hid (by unfold chgAt at hcg; unfold I64; omega)
      have HLN : Hid ((chgs st ks j).length + [sumS (stepAt st ks j) - sumS (tookAt st ks j)].length ≤ 1099511627776) := Lib.hid (by rw [chgs_length]; simp; omega)
      have HS1 := Lib.hid (show (stepAt st ks j).length ≤ 100000 ∧ ∀ x ∈ stepAt st ks j, 0 ≤ x ∧ x ≤ 1000 from ⟨by omega, fun x hx => by have := hs1.2 x hx; omega⟩)
      have HS2 := Lib.hid (show (tookAt st ks j).length ≤ 100000 ∧ ∀ x ∈ tookAt st ks j, 0 ≤ x ∧ x ≤ 1000 from ⟨by omega, hs2.2⟩)
      have HCH : Hid (chgAt st ks j = sumS (stepAt st ks j) - sumS (tookAt st ks j)) := Lib.hid rfl
      clear hcg hs1 hs2 HSA HTKA HSTL HTL
      generalize stepAt st ks j = MS at *
      generalize tookAt st ks j = TS at *
      go_wp2
      go_region_law (first | (go_simp; go_at_call 207; with_reducible refine (sumOfS_any _ _ (.slice A3 MS.length c3) MS (K2.out.up (by repeat (first | exact Chg.refl _ _ | apply Chg.drew | apply Chg.drewN | refine Chg.alloc ?_ _))) HS1.out.1 HS1.out.2).mono ?_; rintro e w' ⟨rfl, rfl⟩) | (go_simp; go_at_call 207; with_reducible refine (sumOfS_any _ _ (.slice Ar tk cr) TS (HT2.out.up (by repeat (first | exact Chg.refl _ _ | apply Chg.drew | apply Chg.drewN | refine Chg.alloc ?_ _))) HS2.out.1 HS2.out.2).mono ?_; rintro e w' ⟨rfl, rfl⟩) | (refine step_appI (by rfl) (.tmp 36) (.tmp 44) (by rfl) (w.heap.size + 1) _ (chgs st ks j) (by simp [Act.eval, Act.put]) ((HQ2.out.up (by repeat (first | exact Chg.refl _ _ | apply Chg.drew | apply Chg.drewN | refine Chg.alloc ?_ _))).alloc _) _ _ [sumS MS - sumS TS] (by simp [Act.eval, Act.put]) (lit1 _ _ HI.out 0 (Nat.zero_le _)) HLN.out ?_ ?_; (have h9 := HBX.out; first | omega | (simp; omega)); intro v' w3 ho1 _ _ hg1; have HO := Lib.hid ho1; have HG := Lib.hid hg1; clear ho1 hg1))
      simp [Act.put, goInt]
      have HR3 := Lib.hid ((HR2.out.up (by repeat (first | exact Chg.refl _ _ | apply Chg.drew | apply Chg.drewN | refine Chg.alloc ?_ _))).keep HG.out (fun b hb h1 h9 => by have h1 : b < w.heap.size := h1; have h9 : w.heap.size + 1 ≤ b := h9; omega))
      have HB3 := Lib.hid ((HB2.out.up (by repeat (first | exact Chg.refl _ _ | apply Chg.drew | apply Chg.drewN | refine Chg.alloc ?_ _))).keep HG.out (fun h9 => by have h9 : w.heap.size + 1 ≤ w.heap.size := h9; omega))
      have HU3 := Lib.hid (Chg.new (Chg.trans (Chg.trans hu.out G2.out) (by repeat (first | exact Chg.refl _ _ | apply Chg.drew | apply Chg.drewN | refine Chg.alloc ?_ _))) HG.out (fun i hi h9 => by have h9 : w.heap.size + 1 ≤ i := h9; omega) : Up w w3)
      go_wp2
      go_roundw
      case rel =>
        refine ⟨j + 1, by omega, by go_num, by rw [chgs_succ, HCH.out]; exact HO.out, ?_, HB3.out, HU3.out⟩
        have e9 : posS ks (j + 1) = posS ks j + tk := by rw [HPS.out]; simp
        rw [e9, ← List.drop_drop]
        refine HR3.out.dropt (by omega) (by omega) rfl (fun b o e hlt9 => ?_) (fun e => ?_)
        · subst e
          rw [if_neg (by omega)]
          unfold Addr.add
          by_cases h0 : tk = 0 <;> simp [h0]
        · by_cases h0 : cr = tk
          · omega
          · rw [if_neg h0] at e
            have : Ar = none := by cases Ar with | none => rfl | some a => simp at e
            have := har this
            omega
      case measure => first | (simp [intOf]; done) | (simp [intOf]; omega)
    · obtain rfl : j = ks.length := by omega
      have e0 := hb.out.1
      have e1 := hb.out.2.1
      have e2 := hb.out.2.2
      have hwz : w.heap.size < wr.heap.size := World.block_lt_of_cell? _ _ e0
      have HWZ := Lib.hid hwz
      go_wp2_with fail
      refine (order_any _ (fun b => b < w.heap.size) _ ⟨d, cr0, ks⟩ ⟨_, rfl, Hw2.out.up hu.out, HDI.out, HDC.out⟩ hd hks).mono ?_
      rintro e w2 ⟨v2, rfl, k2, g2⟩
      have HO2 := Lib.hid (show Ints w2 _ v2 (ordM d ks.length) from k2)
      have HU2 := Lib.hid (Chg.trans hu.out g2)
      have HC2 := Lib.hid (hq.out.ints.up g2)
      obtain ⟨A4, c4, rfl, hl4, hc4, -⟩ := k2.shape
      obtain ⟨A5, c5, rfl, hl5, hc5, -⟩ := hq.out.ints.shape
      have hol := ordM_length d ks.length
      clear k2 g2 e0 e1 e2
      go_wp2
      go_loop [5, 14, 53] (fun s _ i => ∃ t : Nat, t ≤ ks.length ∧ i = .int .i64 t ∧ s = .int .i64 (parS d st ks t) ∧ Hid (thinTo d st ks t = true)) (fun _ _ i => ks.length - (intOf i).toNat)
      case atStart => exact ⟨0, by omega, rfl, rfl, rfl⟩
      case round =>
        obtain ⟨t, ht, rfl, rfl, hth⟩ := hrel
        by_cases hlt : t < ks.length
        · obtain ⟨oi, HOI⟩ : ∃ oi : Nat, Hid (ordI d ks.length t = oi) := ⟨_, Lib.hid rfl⟩
          have hoi : oi < ks.length := by rw [← HOI.out]; unfold ordI; split <;> omega
          obtain ⟨b4, o4, rfl, -, hc4'⟩ := HO2.out.ix (show t < (ordM d ks.length).length by omega)
          have f1 := hc4' t (by omega)
          have e1 : ix (ordM d ks.length) t = (oi : Int) := by
            rw [ix_eq (by omega), ordM_get, ← HOI.out]
            unfold ordI
            split <;> omega
          rw [e1] at f1
          have hcl := chgs_length st ks ks.length
          obtain ⟨b5, o5, rfl, -, hc5'⟩ := HC2.out.ix (show oi < (chgs st ks ks.length).length by omega)
          have f2 := hc5' oi (by omega)
          rw [chgs_get st ks hoi] at f2
          have hp1 := HF.out.par d t (by omega)
          have hp2 := HF.out.chg hoi
          have HPT : Hid (parS d st ks (t + 1) = parS d st ks t + chgAt st ks oi) := Lib.hid (by simp only [parS]; rw [HOI.out])
          have y1 : IntKind.i64.wrap (parS d st ks t + chgAt st ks oi) = parS d st ks (t + 1) := by rw [HPT.out]; exact IntWalk.i64_in _ (by omega)
          generalize chgAt st ks oi = cg at *
          have hl1 : (t : Int) < (ordM d ks.length).length := by omega
          have hl2 : (oi : Int) < (chgs st ks ks.length).length := by omega
          clear hc4' hc5' e1
          by_cases h12 : parS d st ks (t + 1) ≤ 12
          · have HT2 : Hid (thinTo d st ks (t + 1) = true) := Lib.hid (by rw [thinTo_succ, hth.out, decide_eq_true h12]; rfl)
            have t12 : decide ((12 : Int) < parS d st ks (t + 1)) = false := decide_eq_false (by omega)
            clear h12
            go_wp2
            go_round
            case rel => exact ⟨t + 1, by omega, by go_num, by first | rfl | rw [y1], HT2.out⟩
            case measure => first | (simp [intOf]; done) | (simp [intOf]; omega)
          · have HV := Lib.hid (thinTo_false hlt h12)
            have t12 : decide ((12 : Int) < parS d st ks (t + 1)) = true := decide_eq_true (by omega)
            clear h12
            go_wp2
            go_ret
            exact ⟨ret_bool (by first | exact HV.out.symm | (unfold thinB; exact HV.out.symm)), HU2.out⟩
        · obtain rfl : t = ks.length := by omega
          go_wp2
          go_ret
          exact ⟨ret_bool (by first | exact hth.out.symm | (unfold thinB; exact hth.out.symm)), HU2.out⟩
end Go.Proofs.Ytaopjpcclkkoiaa
set_option linter.unusedSimpArgs false
set_option linter.unusedVariables false
set_option maxRecDepth 100000
set_option maxHeartbeats 1000000
namespace Go.Proofs.Ytaopjpcclkkoiaa
open Go.ChangeShapes Go.WideShapes Go.ChangeAt Go.RowKit
theorem sumS_take (xs : List Int) {k : Nat} (h : k < xs.length) : sumS (xs.take (k + 1)) = sumS (xs.take k) + ix xs k := by
  rw [List.take_succ_eq_append_getElem h, sumS_append, ix_eq h]; simp [sumS, sumF]
theorem aftTo_pre (st ks : List Int) (m : Nat) : ∀ n, m ≤ n → ∃ Z, aftTo st ks n = aftTo st ks m ++ Z := by
  intro n
  induction n with
  | zero =>
    intro h
    obtain rfl : m = 0 := by omega
    exact ⟨[], by simp⟩
  | succ n ih =>
    intro h
    by_cases e : m = n + 1
    · subst e; exact ⟨[], by simp⟩
    · obtain ⟨Z, hZ⟩ := ih (by omega)
      exact ⟨Z ++ stepAt st ks n, by rw [aftTo_succ, hZ, List.append_assoc]⟩
theorem aft_at {st ks : List Int} {i k : Nat} (hi : i < ks.length) (hk : k < (stepAt st ks i).length) : ix (aftTo st ks ks.length) (posM ks i + k) = ix (stepAt st ks i) k := by
  obtain ⟨Z, hZ⟩ := aftTo_pre st ks (i + 1) ks.length (by omega)
  rw [hZ, aftTo_succ]
  have hl := aftTo_length (st := st) (ks := ks) (j := i) (by omega)
  unfold ix
  rw [List.getD_eq_getElem?_getD, List.getD_eq_getElem?_getD, List.append_assoc, List.getElem?_append_right (by omega), hl, Nat.add_sub_cancel_left, List.getElem?_append_left hk]
theorem sumS_part {xs : List Int} (k : Nat) (h : ∀ x ∈ xs, 0 ≤ x ∧ x ≤ 5) : 0 ≤ sumS (xs.take k) ∧ sumS (xs.take k) ≤ 5 * xs.length := by
  have := sumS_le5 (xs := xs.take k) fun x hx => h x (List.mem_of_mem_take hx)
  rw [List.length_take] at this
  omega
theorem posM_le (ks : List Int) {i n : Nat} (h : i ≤ n) (hn : n ≤ ks.length) : posM ks i ≤ posM ks n := by
  induction n with
  | zero =>
    obtain rfl : i = 0 := by omega
    exact Nat.le_refl _
  | succ n ih =>
    by_cases e : i = n + 1
    · subst e; exact Nat.le_refl _
    · have := ih (by omega) (by omega)
      rw [posM_succ (by omega)]
      omega
theorem l15ThinR_any (w : World) (S S2 S3 : Nat → Prop) (v u : Value) (st : List Int) (b o : Nat) (cc : Int) (ks : List Int) (h : Ints w S v st) (ha : Ints w S3 u (aftTo st ks ks.length)) (hr : RowAt w S2 b o ⟨1, cc, ks⟩) (hf : Fits st ks) (h8 : (aftTo st ks ks.length).length ≤ 8) :
    Calls Try.prog 131 #[v, u, .pointer (some ⟨b, o, none⟩)] w fun e w' => e = .returned (.bool (thinB 1 st ks)) ∧ Up w w' := by
  obtain ⟨A, c, rfl, hlc, hcm, -⟩ := h.shape
  obtain ⟨A2, c2, rfl, hlc2, hcm2, -⟩ := ha.shape
  have H := Lib.hid h
  have H2 := Lib.hid ha
  have HR := Lib.hid hr
  have HF := Lib.hid hf
  have hks := stB_len hf.k
  have hst := stkB_len hf.s
  obtain ⟨A3, c3, r0, r1, r2, hri, hrc, hrm, -, hrb⟩ := hr
  dsimp only at r0 r1 r2 hri hrc
  have HRI := Lib.hid hri
  have HR0 := Lib.hid r0
  have HR2 := Lib.hid r2
  have HAL := Lib.hid (aftTo_length (st := st) (ks := ks) (Nat.le_refl _))
  have HPN : Hid (posS ks ks.length = st.length) := Lib.hid (by have h1 := posS_int ks ks.length; rw [List.take_length, hf.sum] at h1; omega)
  clear h ha hf hri r1
  go_enter Try.func131, Try.ntmps131
  go_wp2
  go_loop [7, 8] (fun s i => ∃ t : Nat, t ≤ st.length ∧ i = .int .i64 t ∧ s = .int .i64 (sumS (st.take t))) (fun _ i => st.length - (intOf i).toNat)
  case atStart => exact ⟨0, by omega, rfl, rfl⟩
  case round =>
    obtain ⟨t, ht, rfl, rfl⟩ := hrel
    by_cases hlt : t < st.length
    · obtain ⟨b4, o4, rfl, -, hc4⟩ := H.out.ix hlt
      have f1 := hc4 t hlt
      have HS := Lib.hid (sumS_take st hlt)
      have hb1 := sumS_part (xs := st) t (fun x hx => by have := stkB_bd HF.out.s x hx; omega)
      have hb2 : 1 ≤ ix st t ∧ ix st t ≤ 4 := by rw [ix_eq hlt]; exact stkB_bd HF.out.s _ (List.getElem_mem hlt)
      have y1 : IntKind.i64.wrap (sumS (st.take t) + ix st t) = sumS (st.take t) + ix st t := IntWalk.i64_in _ (by omega)
      clear hc4
      go_wp2
      go_round
      case rel => exact ⟨t + 1, by omega, by go_num, by rw [HS.out]⟩
      case measure => first | (simp [intOf]; done) | (simp [intOf]; omega)
    · obtain rfl : t = st.length := by omega
      rw [List.take_length]
      go_wp2
      go_loopw [7, 10, 11, 12] (fun s f g i wr => ∃ t : Nat, t ≤ ks.length ∧ i = .int .i64 t ∧ f = .int .i64 (posS ks t) ∧ g = .int .i64 (posM ks t) ∧ s = .int .i64 (parS 1 st ks t) ∧ Hid (thinTo 1 st ks t = true) ∧ Hid (Up w wr)) (fun _ _ _ i _ => ks.length - (intOf i).toNat)
      case atStart => exact ⟨0, by omega, rfl, by first | rfl | (rw [Nat.sub_zero, HPN.out]), by first | rfl | (rw [Nat.sub_zero, ← HAL.out]), rfl, rfl, Chg.refl _ _⟩
      case round =>
        obtain ⟨t, ht, rfl, rfl, rfl, rfl, hth, hu⟩ := hrel
        have q0 := Chg.cell hu.out HR0.out id
        have q2 := Chg.cell hu.out HR2.out id
        by_cases hlt : t < ks.length
        rotate_left
        · obtain rfl : t = ks.length := by omega
          go_wp2
          go_ret
          exact ⟨ret_bool (by first | exact hth.out.symm | (unfold thinB; exact hth.out.symm)), hu.out⟩
        have HTT : Hid True := Lib.hid trivial
        obtain ⟨ki, HKI⟩ : ∃ ki : Nat, Hid (ordI 1 ks.length t = ki) := ⟨_, Lib.hid rfl⟩
        have hki : t = ki := by have h := HKI.out; unfold ordI at h; simp at h; omega
        have hkl : ki < ks.length := by omega
        obtain ⟨b3, o3, rfl, -, hc3⟩ := (HRI.out.up hu.out).ix hkl
        have f3 := hc3 ki hkl
        rw [ix_eq hkl] at f3
        have HKJ := Lib.hid (stB_kind HF.out.k _ (List.getElem_mem hkl))
        have HPS := Lib.hid (posS_succ hkl)
        have HPM := Lib.hid (posM_succ hkl)
        have HPT := Lib.hid (HF.out.pos hkl)
        have HLS : Hid ((stepAt st ks ki).length = (madeK ks[ki]).toNat) := Lib.hid (by unfold stepAt; rw [stepS_len, ix_eq hkl])
        have HLT : Hid ((tookAt st ks ki).length = (takenK ks[ki]).toNat) := Lib.hid (by unfold tookAt; rw [List.length_take, List.length_drop, ix_eq hkl]; have := HPT.out; omega)
        have HPL := Lib.hid (posM_le ks (show ki + 1 ≤ ks.length by omega) (Nat.le_refl _))
        obtain ⟨kd, HKD⟩ : ∃ kd, Hid (ks[ki] = kd) := ⟨_, Lib.hid rfl⟩
        rw [HKD.out] at f3 HKJ HPS HPM HPT HLS HLT
        obtain ⟨tk, HTK⟩ : ∃ tk : Nat, Hid (takenK kd = tk) := ⟨(takenK kd).toNat, Lib.hid (by have := takenK_bd kd; omega)⟩
        obtain ⟨mk, HMK⟩ : ∃ mk : Nat, Hid (madeK kd = mk) := ⟨(madeK kd).toNat, Lib.hid (by have := madeK_bd kd; omega)⟩
        have htk4 : tk ≤ 4 := by have h1 := HTK.out; have := takenK_bd kd; omega
        have hmk4 : mk ≤ 4 := by have h1 := HMK.out; have := madeK_bd kd; omega
        rw [HTK.out, Int.toNat_natCast] at HPS HPT HLT
        rw [HMK.out, Int.toNat_natCast] at HPM HLS
        have HTKO : Hid (takenOf kd = tk) := Lib.hid ((takenOf_ok HKJ.out).trans HTK.out)
        have HMKO : Hid (madeOf kd = mk) := Lib.hid ((madeOf_ok HKJ.out).trans HMK.out)
        have hp1 := HF.out.par 1 t (by omega)
        have hp2 := HF.out.par 1 (t + 1) (by omega)
        have HPAR : Hid (parS 1 st ks (t + 1) = parS 1 st ks t - sumS (tookAt st ks ki) + sumS (stepAt st ks ki)) := Lib.hid (by simp only [parS]; rw [HKI.out]; unfold chgAt; omega)
        have hs1 := fun k => sumS_part (xs := tookAt st ks ki) k (fun x hx => by have := (HF.out.took ki).2 x hx; have := stkB_bd HF.out.s x (List.mem_of_mem_drop (List.mem_of_mem_take hx)); omega)
        have HS1 := Lib.hid hs1
        have hs2 := fun k => sumS_part (xs := stepAt st ks ki) k (fun x hx => by have := (HF.out.step hkl).2 x hx; omega)
        have HS2 := Lib.hid hs2
        clear hs1 hs2 hc3
        subst hki
        go_wp2_with fail
        go_loopw [7, 14] (fun s k wq => ∃ m : Nat, m ≤ tk ∧ k = .int .i64 m ∧ s = .int .i64 (parS 1 st ks t - sumS ((tookAt st ks t).take m)) ∧ Hid (Up w wq)) (fun _ k _ => tk - (intOf k).toNat)
        case atStart => exact ⟨0, by omega, rfl, by simp [sumS, sumF], hu.out⟩
        case round =>
          obtain ⟨m, hm, rfl, rfl, hu2⟩ := hrel
          go_wp2_with fail
          refine (sColumnsTaken_any _ _).mono ?_
          rintro e w4 ⟨rfl, g4⟩
          rw [HTKO.out]
          have HU4 := Lib.hid (Chg.trans hu2.out g4)
          clear g4
          by_cases hlt2 : m < tk
          · have hi9 : posS ks t + m < st.length := by have := HPT.out; omega
            obtain ⟨b7, o7, rfl, -, hc7⟩ := (H.out.up HU4.out).ix hi9
            have f7 := hc7 (posS ks t + m) hi9
            have HX : Hid (sumS ((tookAt st ks t).take (m + 1)) = sumS ((tookAt st ks t).take m) + ix st (posS ks t + m)) := Lib.hid (by
              rw [sumS_take _ (by rw [HLT.out]; exact hlt2)]
              congr 1
              unfold tookAt
              exact ix_drop_take (by rw [ix_eq hkl, HKD.out, HTK.out]; simpa using hlt2) hi9)
            have hb1 := HS1.out m
            have hb3 := HS1.out (m + 1)
            have hb4 : (tookAt st ks t).length = tk := HLT.out
            have hb2 : 1 ≤ ix st (posS ks t + m) ∧ ix st (posS ks t + m) ≤ 4 := by rw [ix_eq hi9]; exact stkB_bd HF.out.s _ (List.getElem_mem hi9)
            have y1 : IntKind.i64.wrap ((posS ks t : Int) + m) = ((posS ks t + m : Nat) : Int) := (IntWalk.i64_in _ (by omega)).trans (by omega)
            have y2 : IntKind.i64.wrap (parS 1 st ks t - sumS ((tookAt st ks t).take m) - ix st (posS ks t + m)) = parS 1 st ks t - sumS ((tookAt st ks t).take (m + 1)) := by rw [HX.out]; exact (IntWalk.i64_in _ (by omega)).trans (by omega)
            have hi8 : (posS ks t : Int) + m < st.length := by omega
            have hi7 : ((posS ks t : Int) + m).toNat = posS ks t + m := by omega
            have hi6 : 0 ≤ (posS ks t : Int) + m := by omega
            have y1' : IntKind.i64.wrap ((posS ks t : Int) + m) = (posS ks t : Int) + m := IntWalk.i64_in _ (by omega)
            have y3 : IntKind.i64.wrap ((m : Int) + 1) = ((m + 1 : Nat) : Int) := (IntWalk.i64_in _ (by omega)).trans (by omega)
            have hm9 : (m : Int) < tk := by omega
            clear hc7 hb1 hb3 hb4 hb2
            go_wp2
            go_roundw
            case rel => exact ⟨m + 1, by omega, by first | rfl | go_num, by first | rfl | rw [y2], HU4.out⟩
            case measure => first | (simp [intOf]; done) | (simp [intOf]; omega)
          · obtain rfl : m = tk := by omega
            have e7 : (tookAt st ks t).take m = tookAt st ks t := List.take_of_length_le (by rw [HLT.out]; exact Nat.le_refl _)
            rw [e7]
            go_wp2
            go_loopw [7, 15] (fun s k wq => ∃ n : Nat, n ≤ mk ∧ k = .int .i64 n ∧ s = .int .i64 (parS 1 st ks t - sumS (tookAt st ks t) + sumS ((stepAt st ks t).take n)) ∧ Hid (Up w wq)) (fun _ k _ => mk - (intOf k).toNat)
            case atStart => exact ⟨0, by omega, rfl, by simp [sumS, sumF], HU4.out⟩
            case round =>
              obtain ⟨n, hn, rfl, rfl, hu3⟩ := hrel
              go_wp2_with fail
              refine (sColumnsMade_any _ _).mono ?_
              rintro e w5 ⟨rfl, g5⟩
              rw [HMKO.out]
              have HU5 := Lib.hid (Chg.trans hu3.out g5)
              clear g5
              by_cases hlt3 : n < mk
              · have hi9 : posM ks t + n < (aftTo st ks ks.length).length := by have := HPL.out; have := HAL.out; have := HPM.out; omega
                obtain ⟨b7, o7, rfl, -, hc7⟩ := (H2.out.up HU5.out).ix hi9
                have f7 := hc7 (posM ks t + n) hi9
                rw [aft_at hkl (by rw [HLS.out]; exact hlt3)] at f7
                have HX : Hid (sumS ((stepAt st ks t).take (n + 1)) = sumS ((stepAt st ks t).take n) + ix (stepAt st ks t) n) := Lib.hid (sumS_take _ (by rw [HLS.out]; exact hlt3))
                have hb1 := HS2.out n
                have hb3 := HS2.out (n + 1)
                have hb4 : (stepAt st ks t).length = mk := HLS.out
                have hb5 := HS1.out m
                have hb6 : (tookAt st ks t).length = m := HLT.out
                rw [List.take_of_length_le (Nat.le_of_eq hb6)] at hb5
                have y1 : IntKind.i64.wrap ((posM ks t : Int) + n) = ((posM ks t + n : Nat) : Int) := (IntWalk.i64_in _ (by omega)).trans (by omega)
                have y1' : IntKind.i64.wrap ((posM ks t : Int) + n) = (posM ks t : Int) + n := IntWalk.i64_in _ (by omega)
                have y2 : IntKind.i64.wrap (parS 1 st ks t - sumS (tookAt st ks t) + sumS ((stepAt st ks t).take n) + ix (stepAt st ks t) n) = parS 1 st ks t - sumS (tookAt st ks t) + sumS ((stepAt st ks t).take (n + 1)) := by rw [HX.out] at *; exact (IntWalk.i64_in _ (by omega)).trans (by omega)
                have hi8 : (posM ks t : Int) + n < (aftTo st ks ks.length).length := by omega
                have hi7 : ((posM ks t : Int) + n).toNat = posM ks t + n := by omega
                have hi6 : 0 ≤ (posM ks t : Int) + n := by omega
                have y3 : IntKind.i64.wrap ((n : Int) + 1) = ((n + 1 : Nat) : Int) := (IntWalk.i64_in _ (by omega)).trans (by omega)
                have hm9 : (n : Int) < mk := by omega
                clear hc7 hb1 hb3 hb4 hb5 hb6
                go_wp2
                go_roundw
                case rel => exact ⟨n + 1, by omega, by first | rfl | go_num, by first | rfl | rw [y2], HU5.out⟩
                case measure => first | (simp [intOf]; done) | (simp [intOf]; omega)
              · obtain rfl : n = mk := by omega
                have e6 : (stepAt st ks t).take n = stepAt st ks t := List.take_of_length_le (by rw [HLS.out]; exact Nat.le_refl _)
                rw [e6, ← HPAR.out]
                have p0 := Chg.cell HU5.out HR0.out id
                have hp9 := HPL.out
                have hal := HAL.out
                have hpm := HPM.out
                have hpt := HPT.out
                have hps := HPS.out
                have y3 : IntKind.i64.wrap ((t : Int) + 1) = ((t + 1 : Nat) : Int) := (IntWalk.i64_in _ (by omega)).trans (by omega)
                by_cases h12 : parS 1 st ks (t + 1) ≤ 12
                · have HT2 : Hid (thinTo 1 st ks (t + 1) = true) := Lib.hid (by rw [thinTo_succ, hth.out, decide_eq_true h12]; rfl)
                  have t12 : decide ((12 : Int) < parS 1 st ks (t + 1)) = false := decide_eq_false (by omega)
                  clear h12
                  have yA : IntKind.i64.wrap ((posS ks t : Int) + m) = ((posS ks (t + 1) : Nat) : Int) := (IntWalk.i64_in _ (by omega)).trans (by omega)
                  have yB : IntKind.i64.wrap ((posM ks t : Int) + n) = ((posM ks (t + 1) : Nat) : Int) := (IntWalk.i64_in _ (by omega)).trans (by omega)
                  clear hp9 hal hpm hpt hps
                  go_wp2_with fail
                  refine (sColumnsTaken_any _ _).mono ?_
                  rintro e w6 ⟨rfl, g6⟩
                  rw [HTKO.out]
                  have HU6 := Lib.hid (Chg.trans HU5.out g6)
                  clear g6
                  go_wp2_with fail
                  refine (sColumnsMade_any _ _).mono ?_
                  rintro e w7 ⟨rfl, g7⟩
                  rw [HMKO.out]
                  have HU7 := Lib.hid (Chg.trans HU6.out g7)
                  clear g7
                  go_wp2
                  go_roundw
                  case rel => exact ⟨t + 1, by omega, by first | rfl | go_num, by first | rfl | rw [yA], by first | rfl | rw [yB], rfl, HT2.out, HU7.out⟩
                  case measure => first | (simp [intOf]; done) | (simp [intOf]; omega)
                · have HV := Lib.hid (thinTo_false hlt h12)
                  have t12 : decide ((12 : Int) < parS 1 st ks (t + 1)) = true := decide_eq_true (by omega)
                  clear h12 hp9 hal hpm hpt hps
                  go_wp2
                  go_ret
                  exact ⟨ret_bool (by first | exact HV.out.symm | (unfold thinB; exact HV.out.symm)), HU5.out⟩
theorem l15ThinL_any (w : World) (S S2 S3 : Nat → Prop) (v u : Value) (st : List Int) (b o : Nat) (cc : Int) (ks : List Int) (h : Ints w S v st) (ha : Ints w S3 u (aftTo st ks ks.length)) (hr : RowAt w S2 b o ⟨-1, cc, ks⟩) (hf : Fits st ks) (h8 : (aftTo st ks ks.length).length ≤ 8) :
    Calls Try.prog 131 #[v, u, .pointer (some ⟨b, o, none⟩)] w fun e w' => e = .returned (.bool (thinB (-1) st ks)) ∧ Up w w' := by
  obtain ⟨A, c, rfl, hlc, hcm, -⟩ := h.shape
  obtain ⟨A2, c2, rfl, hlc2, hcm2, -⟩ := ha.shape
  have H := Lib.hid h
  have H2 := Lib.hid ha
  have HR := Lib.hid hr
  have HF := Lib.hid hf
  have hks := stB_len hf.k
  have hst := stkB_len hf.s
  obtain ⟨A3, c3, r0, r1, r2, hri, hrc, hrm, -, hrb⟩ := hr
  dsimp only at r0 r1 r2 hri hrc
  have HRI := Lib.hid hri
  have HR0 := Lib.hid r0
  have HR2 := Lib.hid r2
  have HAL := Lib.hid (aftTo_length (st := st) (ks := ks) (Nat.le_refl _))
  have HPN : Hid (posS ks ks.length = st.length) := Lib.hid (by have h1 := posS_int ks ks.length; rw [List.take_length, hf.sum] at h1; omega)
  clear h ha hf hri r1
  go_enter Try.func131, Try.ntmps131
  go_wp2
  go_loop [7, 8] (fun s i => ∃ t : Nat, t ≤ st.length ∧ i = .int .i64 t ∧ s = .int .i64 (sumS (st.take t))) (fun _ i => st.length - (intOf i).toNat)
  case atStart => exact ⟨0, by omega, rfl, rfl⟩
  case round =>
    obtain ⟨t, ht, rfl, rfl⟩ := hrel
    by_cases hlt : t < st.length
    · obtain ⟨b4, o4, rfl, -, hc4⟩ := H.out.ix hlt
      have f1 := hc4 t hlt
      have HS := Lib.hid (sumS_take st hlt)
      have hb1 := sumS_part (xs := st) t (fun x hx => by have := stkB_bd HF.out.s x hx; omega)
      have hb2 : 1 ≤ ix st t ∧ ix st t ≤ 4 := by rw [ix_eq hlt]; exact stkB_bd HF.out.s _ (List.getElem_mem hlt)
      have y1 : IntKind.i64.wrap (sumS (st.take t) + ix st t) = sumS (st.take t) + ix st t := IntWalk.i64_in _ (by omega)
      clear hc4
      go_wp2
      go_round
      case rel => exact ⟨t + 1, by omega, by go_num, by rw [HS.out]⟩
      case measure => first | (simp [intOf]; done) | (simp [intOf]; omega)
    · obtain rfl : t = st.length := by omega
      rw [List.take_length]
      go_wp2
      go_loopw [7, 10, 11, 12] (fun s f g i wr => ∃ t : Nat, t ≤ ks.length ∧ i = .int .i64 t ∧ f = .int .i64 (posS ks (ks.length - t)) ∧ g = .int .i64 (posM ks (ks.length - t)) ∧ s = .int .i64 (parS (-1) st ks t) ∧ Hid (thinTo (-1) st ks t = true) ∧ Hid (Up w wr)) (fun _ _ _ i _ => ks.length - (intOf i).toNat)
      case atStart => exact ⟨0, by omega, rfl, by first | rfl | (rw [Nat.sub_zero, HPN.out]), by first | rfl | (rw [Nat.sub_zero, ← HAL.out]), rfl, rfl, Chg.refl _ _⟩
      case round =>
        obtain ⟨t, ht, rfl, rfl, rfl, rfl, hth, hu⟩ := hrel
        have q0 := Chg.cell hu.out HR0.out id
        have q2 := Chg.cell hu.out HR2.out id
        by_cases hlt : t < ks.length
        rotate_left
        · obtain rfl : t = ks.length := by omega
          go_wp2
          go_ret
          exact ⟨ret_bool (by first | exact hth.out.symm | (unfold thinB; exact hth.out.symm)), hu.out⟩
        have HTT : Hid True := Lib.hid trivial
        obtain ⟨ki, HKI⟩ : ∃ ki : Nat, Hid (ordI (-1) ks.length t = ki) := ⟨_, Lib.hid rfl⟩
        have hki : ki = ks.length - 1 - t := by have h := HKI.out; unfold ordI at h; simp at h; omega
        have hkl : ki < ks.length := by omega
        obtain ⟨b3, o3, rfl, -, hc3⟩ := (HRI.out.up hu.out).ix hkl
        have f3 := hc3 ki hkl
        rw [ix_eq hkl] at f3
        obtain ⟨b6, o6, he6, -, hc6⟩ := (HRI.out.up hu.out).ix hlt
        obtain ⟨rfl, rfl⟩ : b3 = b6 ∧ o3 = o6 := by simpa using he6
        have f6 := hc6 t hlt
        clear hc6 he6
        have yk : IntKind.i64.wrap ((ks.length : Int) - 1) = (ks.length : Int) - 1 := IntWalk.i64_in _ (by omega)
        have yk2 : IntKind.i64.wrap ((ks.length : Int) - 1 - t) = (ki : Int) := (IntWalk.i64_in _ (by omega)).trans (by omega)
        have HKJ := Lib.hid (stB_kind HF.out.k _ (List.getElem_mem hkl))
        have HPS := Lib.hid (posS_succ hkl)
        have HPM := Lib.hid (posM_succ hkl)
        have HPT := Lib.hid (HF.out.pos hkl)
        have HLS : Hid ((stepAt st ks ki).length = (madeK ks[ki]).toNat) := Lib.hid (by unfold stepAt; rw [stepS_len, ix_eq hkl])
        have HLT : Hid ((tookAt st ks ki).length = (takenK ks[ki]).toNat) := Lib.hid (by unfold tookAt; rw [List.length_take, List.length_drop, ix_eq hkl]; have := HPT.out; omega)
        have HPL := Lib.hid (posM_le ks (show ki + 1 ≤ ks.length by omega) (Nat.le_refl _))
        obtain ⟨kd, HKD⟩ : ∃ kd, Hid (ks[ki] = kd) := ⟨_, Lib.hid rfl⟩
        rw [HKD.out] at f3 HKJ HPS HPM HPT HLS HLT
        obtain ⟨tk, HTK⟩ : ∃ tk : Nat, Hid (takenK kd = tk) := ⟨(takenK kd).toNat, Lib.hid (by have := takenK_bd kd; omega)⟩
        obtain ⟨mk, HMK⟩ : ∃ mk : Nat, Hid (madeK kd = mk) := ⟨(madeK kd).toNat, Lib.hid (by have := madeK_bd kd; omega)⟩
        have htk4 : tk ≤ 4 := by have h1 := HTK.out; have := takenK_bd kd; omega
        have hmk4 : mk ≤ 4 := by have h1 := HMK.out; have := madeK_bd kd; omega
        rw [HTK.out, Int.toNat_natCast] at HPS HPT HLT
        rw [HMK.out, Int.toNat_natCast] at HPM HLS
        have HTKO : Hid (takenOf kd = tk) := Lib.hid ((takenOf_ok HKJ.out).trans HTK.out)
        have HMKO : Hid (madeOf kd = mk) := Lib.hid ((madeOf_ok HKJ.out).trans HMK.out)
        have hp1 := HF.out.par (-1) t (by omega)
        have hp2 := HF.out.par (-1) (t + 1) (by omega)
        have HPAR : Hid (parS (-1) st ks (t + 1) = parS (-1) st ks t - sumS (tookAt st ks ki) + sumS (stepAt st ks ki)) := Lib.hid (by simp only [parS]; rw [HKI.out]; unfold chgAt; omega)
        have hs1 := fun k => sumS_part (xs := tookAt st ks ki) k (fun x hx => by have := (HF.out.took ki).2 x hx; have := stkB_bd HF.out.s x (List.mem_of_mem_drop (List.mem_of_mem_take hx)); omega)
        have HS1 := Lib.hid hs1
        have hs2 := fun k => sumS_part (xs := stepAt st ks ki) k (fun x hx => by have := (HF.out.step hkl).2 x hx; omega)
        have HS2 := Lib.hid hs2
        clear hs1 hs2 hc3
        have e8 : posS ks (ks.length - t) = posS ks ki + tk := by rw [show ks.length - t = ki + 1 by omega]; exact HPS.out
        have e9 : posM ks (ks.length - t) = posM ks ki + mk := by rw [show ks.length - t = ki + 1 by omega]; exact HPM.out
        rw [e8, e9]
        have HKE := Lib.hid hki
        clear e8 e9 hki
        have yA : IntKind.i64.wrap (((posS ks ki + tk : Nat) : Int) - tk) = (posS ks ki : Int) := (IntWalk.i64_in _ (by have := HPT.out; omega)).trans (by omega)
        have yA2 : IntKind.i64.wrap ((posS ks ki : Int) + tk - tk) = (posS ks ki : Int) := (IntWalk.i64_in _ (by have := HPT.out; omega)).trans (by omega)
        have yA3 : IntKind.i64.wrap (posS ks ki : Int) = (posS ks ki : Int) := IntWalk.i64_in _ (by have := HPT.out; omega)
        have yB3 : IntKind.i64.wrap (posM ks ki : Int) = (posM ks ki : Int) := IntWalk.i64_in _ (by have := HPL.out; have := HAL.out; have := HPM.out; omega)
        have yB2 : IntKind.i64.wrap ((posM ks ki : Int) + mk - mk) = (posM ks ki : Int) := (IntWalk.i64_in _ (by have := HPL.out; have := HAL.out; have := HPM.out; omega)).trans (by omega)
        go_wp2_with fail
        refine (sColumnsTaken_any _ _).mono ?_
        rintro e wa ⟨rfl, ga⟩
        rw [HTKO.out]
        replace hu := Lib.hid (Chg.trans hu.out ga)
        have q0 := Chg.cell ga q0 id
        have q2 := Chg.cell ga q2 id
        clear ga
        go_wp2_with fail
        refine (sColumnsMade_any _ _).mono ?_
        rintro e wb ⟨rfl, gb⟩
        rw [HMKO.out]
        replace hu := Lib.hid (Chg.trans hu.out gb)
        have q0 := Chg.cell gb q0 id
        have q2 := Chg.cell gb q2 id
        clear gb
        go_wp2_with fail
        go_loopw [7, 14] (fun s k wq => ∃ m : Nat, m ≤ tk ∧ k = .int .i64 m ∧ s = .int .i64 (parS (-1) st ks t - sumS ((tookAt st ks ki).take m)) ∧ Hid (Up w wq)) (fun _ k _ => tk - (intOf k).toNat)
        case atStart => exact ⟨0, by omega, rfl, by simp [sumS, sumF], hu.out⟩
        case round =>
          obtain ⟨m, hm, rfl, rfl, hu2⟩ := hrel
          go_wp2_with fail
          refine (sColumnsTaken_any _ _).mono ?_
          rintro e w4 ⟨rfl, g4⟩
          rw [HTKO.out]
          have HU4 := Lib.hid (Chg.trans hu2.out g4)
          clear g4
          by_cases hlt2 : m < tk
          · have hi9 : posS ks ki + m < st.length := by have := HPT.out; omega
            obtain ⟨b7, o7, rfl, -, hc7⟩ := (H.out.up HU4.out).ix hi9
            have f7 := hc7 (posS ks ki + m) hi9
            have HX : Hid (sumS ((tookAt st ks ki).take (m + 1)) = sumS ((tookAt st ks ki).take m) + ix st (posS ks ki + m)) := Lib.hid (by
              rw [sumS_take _ (by rw [HLT.out]; exact hlt2)]
              congr 1
              unfold tookAt
              exact ix_drop_take (by rw [ix_eq hkl, HKD.out, HTK.out]; simpa using hlt2) hi9)
            have hb1 := HS1.out m
            have hb3 := HS1.out (m + 1)
            have hb4 : (tookAt st ks ki).length = tk := HLT.out
            have hb2 : 1 ≤ ix st (posS ks ki + m) ∧ ix st (posS ks ki + m) ≤ 4 := by rw [ix_eq hi9]; exact stkB_bd HF.out.s _ (List.getElem_mem hi9)
            have y1 : IntKind.i64.wrap ((posS ks ki : Int) + m) = ((posS ks ki + m : Nat) : Int) := (IntWalk.i64_in _ (by omega)).trans (by omega)
            have y2 : IntKind.i64.wrap (parS (-1) st ks t - sumS ((tookAt st ks ki).take m) - ix st (posS ks ki + m)) = parS (-1) st ks t - sumS ((tookAt st ks ki).take (m + 1)) := by rw [HX.out]; exact (IntWalk.i64_in _ (by omega)).trans (by omega)
            have hi8 : (posS ks ki : Int) + m < st.length := by omega
            have hi7 : ((posS ks ki : Int) + m).toNat = posS ks ki + m := by omega
            have hi6 : 0 ≤ (posS ks ki : Int) + m := by omega
            have y1' : IntKind.i64.wrap ((posS ks ki : Int) + m) = (posS ks ki : Int) + m := IntWalk.i64_in _ (by omega)
            have y3 : IntKind.i64.wrap ((m : Int) + 1) = ((m + 1 : Nat) : Int) := (IntWalk.i64_in _ (by omega)).trans (by omega)
            have hm9 : (m : Int) < tk := by omega
            clear hc7 hb1 hb3 hb4 hb2
            go_wp2
            go_roundw
            case rel => exact ⟨m + 1, by omega, by first | rfl | go_num, by first | rfl | rw [y2], HU4.out⟩
            case measure => first | (simp [intOf]; done) | (simp [intOf]; omega)
          · obtain rfl : m = tk := by omega
            have e7 : (tookAt st ks ki).take m = tookAt st ks ki := List.take_of_length_le (by rw [HLT.out]; exact Nat.le_refl _)
            rw [e7]
            go_wp2
            go_loopw [7, 15] (fun s k wq => ∃ n : Nat, n ≤ mk ∧ k = .int .i64 n ∧ s = .int .i64 (parS (-1) st ks t - sumS (tookAt st ks ki) + sumS ((stepAt st ks ki).take n)) ∧ Hid (Up w wq)) (fun _ k _ => mk - (intOf k).toNat)
            case atStart => exact ⟨0, by omega, rfl, by simp [sumS, sumF], HU4.out⟩
            case round =>
              obtain ⟨n, hn, rfl, rfl, hu3⟩ := hrel
              go_wp2_with fail
              refine (sColumnsMade_any _ _).mono ?_
              rintro e w5 ⟨rfl, g5⟩
              rw [HMKO.out]
              have HU5 := Lib.hid (Chg.trans hu3.out g5)
              clear g5
              by_cases hlt3 : n < mk
              · have hi9 : posM ks ki + n < (aftTo st ks ks.length).length := by have := HPL.out; have := HAL.out; have := HPM.out; omega
                obtain ⟨b7, o7, rfl, -, hc7⟩ := (H2.out.up HU5.out).ix hi9
                have f7 := hc7 (posM ks ki + n) hi9
                rw [aft_at hkl (by rw [HLS.out]; exact hlt3)] at f7
                have HX : Hid (sumS ((stepAt st ks ki).take (n + 1)) = sumS ((stepAt st ks ki).take n) + ix (stepAt st ks ki) n) := Lib.hid (sumS_take _ (by rw [HLS.out]; exact hlt3))
                have hb1 := HS2.out n
                have hb3 := HS2.out (n + 1)
                have hb4 : (stepAt st ks ki).length = mk := HLS.out
                have hb5 := HS1.out m
                have hb6 : (tookAt st ks ki).length = m := HLT.out
                rw [List.take_of_length_le (Nat.le_of_eq hb6)] at hb5
                have y1 : IntKind.i64.wrap ((posM ks ki : Int) + n) = ((posM ks ki + n : Nat) : Int) := (IntWalk.i64_in _ (by omega)).trans (by omega)
                have y1' : IntKind.i64.wrap ((posM ks ki : Int) + n) = (posM ks ki : Int) + n := IntWalk.i64_in _ (by omega)
                have y2 : IntKind.i64.wrap (parS (-1) st ks t - sumS (tookAt st ks ki) + sumS ((stepAt st ks ki).take n) + ix (stepAt st ks ki) n) = parS (-1) st ks t - sumS (tookAt st ks ki) + sumS ((stepAt st ks ki).take (n + 1)) := by rw [HX.out] at *; exact (IntWalk.i64_in _ (by omega)).trans (by omega)
                have hi8 : (posM ks ki : Int) + n < (aftTo st ks ks.length).length := by omega
                have hi7 : ((posM ks ki : Int) + n).toNat = posM ks ki + n := by omega
                have hi6 : 0 ≤ (posM ks ki : Int) + n := by omega
                have y3 : IntKind.i64.wrap ((n : Int) + 1) = ((n + 1 : Nat) : Int) := (IntWalk.i64_in _ (by omega)).trans (by omega)
                have hm9 : (n : Int) < mk := by omega
                clear hc7 hb1 hb3 hb4 hb5 hb6
                go_wp2
                go_roundw
                case rel => exact ⟨n + 1, by omega, by first | rfl | go_num, by first | rfl | rw [y2], HU5.out⟩
                case measure => first | (simp [intOf]; done) | (simp [intOf]; omega)
              · obtain rfl : n = mk := by omega
                have e6 : (stepAt st ks ki).take n = stepAt st ks ki := List.take_of_length_le (by rw [HLS.out]; exact Nat.le_refl _)
                rw [e6, ← HPAR.out]
                have p0 := Chg.cell HU5.out HR0.out id
                have hp9 := HPL.out
                have hal := HAL.out
                have hpm := HPM.out
                have hpt := HPT.out
                have hps := HPS.out
                have y3 : IntKind.i64.wrap ((t : Int) + 1) = ((t + 1 : Nat) : Int) := (IntWalk.i64_in _ (by omega)).trans (by omega)
                by_cases h12 : parS (-1) st ks (t + 1) ≤ 12
                · have HT2 : Hid (thinTo (-1) st ks (t + 1) = true) := Lib.hid (by rw [thinTo_succ, hth.out, decide_eq_true h12]; rfl)
                  have t12 : decide ((12 : Int) < parS (-1) st ks (t + 1)) = false := decide_eq_false (by omega)
                  clear h12
                  have yt : ks.length - (t + 1) = ki := by have := HKE.out; omega
                  have YT := Lib.hid yt
                  clear hp9 hal hpm hpt hps yt
                  go_wp2
                  go_roundw
                  case rel => exact ⟨t + 1, by omega, by first | rfl | go_num, by rw [YT.out], by rw [YT.out], rfl, HT2.out, HU5.out⟩
                  case measure => first | (simp [intOf]; done) | (simp [intOf]; omega)
                · have HV := Lib.hid (thinTo_false hlt h12)
                  have t12 : decide ((12 : Int) < parS (-1) st ks (t + 1)) = true := decide_eq_true (by omega)
                  clear h12 hp9 hal hpm hpt hps
                  go_wp2
                  go_ret
                  exact ⟨ret_bool (by first | exact HV.out.symm | (unfold thinB; exact HV.out.symm)), HU5.out⟩
end Go.Proofs.Ytaopjpcclkkoiaa
