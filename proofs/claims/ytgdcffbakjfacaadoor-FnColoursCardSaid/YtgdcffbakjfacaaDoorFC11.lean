/- Whether a row keeps few loops at every time: plain; the program's sums. No condition. keepsLimit, the program's. No condition. l15Thin, the reference's. No condition. Charts as data and in memory: a slice of rows, each of three cells. No condition. Slices of floats as data: reading, appending. No condition. Needles and operations that are valid: the program's tests and the reference's. No condition. -/
import Derived.Test.YtgdcffbakjfacaaDoorFC7
import Derived.Test.YtgdcffbakjfacaaDoorFC10
import Derived.Deep.RegionLaw
import Derived.Test.YtgdcffbakjfacaaDoorRep
import Derived.Test.YtgdcffbakjfacaaDoorFC5
import Derived.Test.YtgdcffbakjfacaaDoorFC2
import Derived.StillTailTactics
import Derived.Laws.AppendOwnNone
import Derived.Test.YtgdcffbakjfacaaDoorFC3
section
set_option linter.unusedSimpArgs false
set_option linter.unusedVariables false
set_option maxRecDepth 100000
set_option maxHeartbeats 1000000
namespace Go.Proofs.YtgdcffbakjfacaaDoor
open Go.ChangeShapes Go.WideShapes Go.ChangeAt Go.RowKit
def sumS (xs : List Int) : Int := sumF id xs
theorem sumS_append (xs ys : List Int) : sumS (xs ++ ys) = sumS xs + sumS ys := sumF_append id xs ys
theorem sumS_bd {xs : List Int} (hb : ∀ x ∈ xs, 0 ≤ x ∧ x ≤ 1000) : 0 ≤ sumS xs ∧ sumS xs ≤ 1000 * xs.length := by
  induction xs with
  | nil => simp [sumS, sumF]
  | cons x xs ih =>
    have h1 := ih (fun y hy => hb y (List.mem_cons_of_mem _ hy))
    have h2 := hb x List.mem_cons_self
    simp only [sumS, sumF, id_eq, List.length_cons] at *
    omega
theorem sumOfS_any (w : World) (S : Nat → Prop) (v : Value) (xs : List Int) (h : Ints w S v xs) (hl : xs.length ≤ 100000) (hb : ∀ x ∈ xs, 0 ≤ x ∧ x ≤ 1000) :
    Calls Tryd.prog 74 #[v] w fun e w' => e = .returned (.int .i64 (sumS xs)) ∧ w = w' := by
  obtain ⟨A, c, rfl, hlc, hcm, -⟩ := h.shape
  have H := Lib.hid h
  have HB := Lib.hid hb
  clear h hb
  go_enter Tryd.func74, Tryd.ntmps74
  go_wp2
  go_loop [3, 5, 8] (fun s _ i => ∃ j : Nat, j ≤ xs.length ∧ i = .int .i64 j ∧ s = .int .i64 (sumS (xs.take j))) (fun _ _ i => xs.length - (intOf i).toNat)
  case atStart => exact ⟨0, by omega, rfl, rfl⟩
  case round =>
    obtain ⟨j, hj, rfl, rfl⟩ := hrel
    by_cases hlt : j < xs.length
    · obtain ⟨b, o, rfl, -, hc⟩ := H.out.ix hlt
      have f1 := hc j hlt
      rw [ix_eq hlt] at f1
      have hx := HB.out xs[j] (List.getElem_mem hlt)
      have hs := sumS_bd (xs := xs.take j) (fun x hx => HB.out x (List.mem_of_mem_take hx))
      have hq : (xs.take j).length ≤ 100000 := by rw [List.length_take]; omega
      have HT := Lib.hid (show sumS (xs.take (j + 1)) = sumS (xs.take j) + xs[j] by rw [List.take_succ_eq_append_getElem hlt, sumS_append]; simp [sumS, sumF])
      clear hc
      go_wp2
      go_round
      case rel => exact ⟨j + 1, by omega, by go_num, by rw [HT.out]⟩
      case measure => simp [intOf]; omega
    · obtain rfl : j = xs.length := by omega
      have HX := Lib.hid (show xs.take xs.length = xs by rw [List.take_length])
      go_wp2
      go_ret
      exact ⟨ret_int (by simp), rfl⟩

def posM (ks : List Int) (j : Nat) : Nat := (sumF madeK (ks.take j)).toNat
theorem posM_int (ks : List Int) (j : Nat) : (posM ks j : Int) = sumF madeK (ks.take j) := by
  unfold posM
  have := sumF_bd madeK 0 4 (by omega) (fun x => by have := madeK_bd x; omega) (ks.take j)
  omega
theorem posM_succ {ks : List Int} {j : Nat} (h : j < ks.length) : posM ks (j + 1) = posM ks j + (madeK ks[j]).toNat := by
  have h1 := posM_int ks j
  have h2 := posM_int ks (j + 1)
  rw [sumF_take madeK h] at h2
  have := madeK_bd ks[j]
  omega
theorem stepS_len (k a b : Int) : (stepS k a b).length = (madeK k).toNat := by
  unfold stepS
  split
  · rename_i h; subst h; rfl
  · split
    · rename_i h; subst h; rfl
    · simp
theorem aftTo_length {st ks : List Int} : ∀ {j : Nat}, j ≤ ks.length → (aftTo st ks j).length = posM ks j
  | 0, _ => rfl
  | j + 1, h => by
    rw [aftTo_succ, List.length_append, aftTo_length (by omega), posM_succ (by omega)]
    unfold stepAt
    rw [stepS_len, ix_eq (by omega)]
/-- the stacks that a stitch takes -/
def tookAt (st ks : List Int) (i : Nat) : List Int := (st.drop (posS ks i)).take (takenK (ix ks i)).toNat
def chgAt (st ks : List Int) (i : Nat) : Int := sumS (stepAt st ks i) - sumS (tookAt st ks i)
def ordT (d : Int) (n t : Nat) : Nat := if d = 1 then t else n - 1 - t
def parS (d : Int) (st ks : List Int) : Nat → Int
  | 0 => sumS st
  | t + 1 => parS d st ks t + chgAt st ks (ordT d ks.length t)
def thinTo (d : Int) (st ks : List Int) (j : Nat) : Bool := (List.range j).all fun t => decide (parS d st ks (t + 1) ≤ 12)
def thinB (d : Int) (st ks : List Int) : Bool := thinTo d st ks ks.length
theorem thinTo_succ (d : Int) (st ks : List Int) (j : Nat) : thinTo d st ks (j + 1) = (thinTo d st ks j && decide (parS d st ks (j + 1) ≤ 12)) := by
  unfold thinTo; rw [List.range_succ, List.all_append]; simp
theorem thinTo_false {d : Int} {st ks : List Int} {j n : Nat} (hj : j < n) (h : ¬ parS d st ks (j + 1) ≤ 12) : thinTo d st ks n = false := by
  unfold thinTo
  rw [Bool.eq_false_iff]
  intro hh
  have := List.all_eq_true.1 hh j (by simpa using hj)
  exact h (of_decide_eq_true this)
/-- what stands where a row fits its stacks -/
structure Fits (st ks : List Int) : Prop where
  s : stkB st = true
  k : stB ks = true
  sum : sumF takenK ks = st.length
theorem saC_fits {st ks : List Int} (h : saC st ks = 0) : Fits st ks ∧ saL st ks = aftTo st ks ks.length := by
  have hh := h
  unfold saC at h
  cases hb : (stkB st && stB ks) with
  | false => rw [hb] at h; simp at h
  | true =>
    by_cases hs : sumF takenK ks = st.length
    · rw [Bool.and_eq_true] at hb
      refine ⟨⟨hb.1, hb.2, hs⟩, ?_⟩
      unfold saL
      rw [hh, if_pos rfl]
    · rw [hb, if_pos rfl, if_neg hs] at h; omega
theorem Fits.pos {st ks : List Int} (h : Fits st ks) {i : Nat} (hi : i < ks.length) : posS ks i + (takenK ks[i]).toNat ≤ st.length := by
  have h1 := posS_succ hi
  have h2 := posS_le ks (i + 1)
  have := h.sum
  omega
theorem Fits.took {st ks : List Int} (h : Fits st ks) (i : Nat) : (tookAt st ks i).length ≤ 4 ∧ ∀ x ∈ tookAt st ks i, 0 ≤ x ∧ x ≤ 1000 := by
  refine ⟨?_, fun x hx => ?_⟩
  · unfold tookAt
    rw [List.length_take]
    have := takenK_bd (ix ks i)
    omega
  · have := stkB_bd h.s x (List.mem_of_mem_drop (List.mem_of_mem_take hx)); omega
theorem sumS_le5 : ∀ {xs : List Int}, (∀ x ∈ xs, 0 ≤ x ∧ x ≤ 5) → 0 ≤ sumS xs ∧ sumS xs ≤ 5 * xs.length
  | [], _ => by simp [sumS, sumF]
  | x :: xs, h => by
    have h1 := sumS_le5 (xs := xs) fun y hy => h y (by simp [hy])
    have h2 := h x (by simp)
    simp only [sumS, sumF, id_eq, List.length_cons] at *
    omega
theorem Fits.step {st ks : List Int} (h : Fits st ks) {i : Nat} (hi : i < ks.length) : (stepAt st ks i).length ≤ 4 ∧ ∀ x ∈ stepAt st ks i, 1 ≤ x ∧ x ≤ 5 :=
  ⟨stepS_length _ _ _, fun x hx => aftTo_bd h.s h.sum h.k (i + 1) (by omega) x (by rw [aftTo_succ]; exact List.mem_append_right _ hx)⟩
theorem Fits.chg {st ks : List Int} (h : Fits st ks) {i : Nat} (hi : i < ks.length) : -20 ≤ chgAt st ks i ∧ chgAt st ks i ≤ 20 := by
  have h1 := h.step hi
  have h2 := h.took i
  have a := sumS_le5 (xs := stepAt st ks i) fun x hx => by have := h1.2 x hx; omega
  have b := sumS_le5 (xs := tookAt st ks i) fun x hx => by have := stkB_bd h.s x (List.mem_of_mem_drop (List.mem_of_mem_take hx)); omega
  unfold chgAt
  omega
theorem Fits.par {st ks : List Int} (h : Fits st ks) (d : Int) : ∀ t, t ≤ ks.length → -20 * (t : Int) ≤ parS d st ks t ∧ parS d st ks t ≤ 40 + 20 * t
  | 0, _ => by
    have b := sumS_le5 (xs := st) fun x hx => by have := stkB_bd h.s x hx; omega
    have := stkB_len h.s
    simp only [parS]
    omega
  | t + 1, ht => by
    have ih := h.par d t (by omega)
    have hc := h.chg (i := ordT d ks.length t) (by unfold ordT; split <;> omega)
    simp only [parS]
    omega
end Go.Proofs.YtgdcffbakjfacaaDoor
end
section
set_option linter.unusedSimpArgs false
set_option linter.unusedVariables false
set_option maxRecDepth 100000
set_option maxHeartbeats 400000
namespace Go.Proofs.YtgdcffbakjfacaaDoor
open Go.ChangeShapes Go.WideShapes Go.ChangeAt Go.RowKit
def chgs (st ks : List Int) (j : Nat) : List Int := (List.range j).map (chgAt st ks)
theorem chgs_succ (st ks : List Int) (j : Nat) : chgs st ks (j + 1) = chgs st ks j ++ [chgAt st ks j] := by simp [chgs, List.range_succ]
theorem chgs_length (st ks : List Int) (j : Nat) : (chgs st ks j).length = j := by simp [chgs]
theorem chgs_get (st ks : List Int) {j i : Nat} (h : i < j) : ix (chgs st ks j) i = chgAt st ks i := by
  unfold ix chgs
  rw [List.getD_eq_getElem?_getD, List.getElem?_map, List.getElem?_range h]
  rfl
theorem box3 (w : World) (a b c : Value) (t : TypeId) : (w.alloc (.cells #[a, b, c] t)).cell? ⟨w.heap.size, 0, none⟩ = some a ∧ (w.alloc (.cells #[a, b, c] t)).cell? ⟨w.heap.size, 1, none⟩ = some b ∧ (w.alloc (.cells #[a, b, c] t)).cell? ⟨w.heap.size, 2, none⟩ = some c := ⟨cell_new _ _ _ _, cell_new _ _ _ _, cell_new _ _ _ _⟩
/-- the three cells of a row's own box -/
def Bx (w : World) (g : Nat) (a b c : Value) : Prop := w.cell? ⟨g, 0, none⟩ = some a ∧ w.cell? ⟨g, 1, none⟩ = some b ∧ w.cell? ⟨g, 2, none⟩ = some c
theorem Bx.keep {S : Nat → Prop} {w w' : World} {g : Nat} {a b c : Value} (h : Bx w g a b c) (k : Chg S w w') (hn : ¬ S g) : Bx w' g a b c := ⟨Chg.cell k h.1 hn, Chg.cell k h.2.1 hn, Chg.cell k h.2.2 hn⟩
theorem Bx.up {w w' : World} {g : Nat} {a b c : Value} (h : Bx w g a b c) (k : Up w w') : Bx w' g a b c := h.keep k id
theorem keepsLimit_any (w : World) (S S2 : Nat → Prop) (u : Value) (d cr0 : Int) (A2 : Option Addr) (c2 : Nat) (st ks : List Int) (h2 : Ints w S2 (.slice A2 ks.length c2) ks) (h : Ints w S u st) (hf : Fits st ks) (hd : d = 1 ∨ d = -1) (hdc : I64 cr0) :
    Calls Tryd.prog 56 #[.agg #[.int .i64 d, .int .i64 cr0, .slice A2 ks.length c2], u] w fun e w' => e = .returned (.bool (thinB d st ks)) ∧ Up w w' := by
  obtain ⟨A, c, rfl, hlc, hcm, -⟩ := h.shape
  obtain ⟨A9, c9, he9, hlc2, hcm2, -⟩ := h2.shape
  obtain ⟨rfl, rfl⟩ : A2 = A9 ∧ c2 = c9 := by simpa using he9
  have U0 := (Chg.refl Nowhere w).alloc (.cells #[.int .i64 d, .int .i64 cr0, .slice A2 ks.length c2] 40)
  have H := Lib.hid ((h.mono (T := fun b => b < w.heap.size) fun _ h _ => h).up U0)
  have H2 := Lib.hid ((h2.mono (T := fun b => b < w.heap.size) fun _ h _ => h).up U0)
  have hks := stB_len hf.k
  have hst := stkB_len hf.s
  have HF := Lib.hid hf
  have Hw2 := Lib.hid (h2.mono (T := fun b => b < w.heap.size) fun _ h _ => h)
  have HDC := Lib.hid hdc
  have HDI : Hid (I64 d) := Lib.hid (by rcases hd with rfl | rfl <;> (unfold I64; omega))
  have B0 := Lib.hid (show Bx (w.alloc (.cells #[.int .i64 d, .int .i64 cr0, .slice A2 ks.length c2] 40)) w.heap.size _ _ _ from box3 w _ _ _ _)
  have hz0 : (w.alloc (.cells #[.int .i64 d, .int .i64 cr0, .slice A2 ks.length c2] 40)).heap.size = w.heap.size + 1 := by simp
  have HZ0 := Lib.hid hz0
  have b2 := B0.out.2.2
  have HM := Lib.hid (show OwnI ((w.alloc (.cells #[.int .i64 d, .int .i64 cr0, .slice A2 ks.length c2] 40)).alloc (.cells #[] 2)) (w.heap.size + 1) (.slice (some ⟨w.heap.size + 1, 0, none⟩) 0 0) [] by have h := OwnI.made (w.alloc (.cells #[.int .i64 d, .int .i64 cr0, .slice A2 ks.length c2] 40)) (w.heap.size + 1) (Nat.le_of_eq hz0.symm); rw [hz0] at h; exact h)
  have b2' := Chg.cell ((Chg.refl Nowhere (w.alloc (.cells #[.int .i64 d, .int .i64 cr0, .slice A2 ks.length c2] 40))).alloc (.cells #[] 2)) b2 id
  clear h h2 hf he9 hz0 U0 hdc
  go_enter Tryd.func56, Tryd.ntmps56
  go_wp2_with fail
  refine (sumOfS_any _ _ _ st H.out (by omega) (fun x hx => by have := stkB_bd HF.out.s x hx; omega)).mono ?_
  rintro e w' ⟨rfl, rfl⟩
  go_wp2
  clear b2 b2'
  go_loopw [6, 7, 22] (fun q r i wr => ∃ (j : Nat), j ≤ ks.length ∧ i = .int .i64 j ∧ Hid (OwnI wr (w.heap.size + 1) q (chgs st ks j)) ∧ Hid (Ints wr (fun b => b < w.heap.size) r (st.drop (posS ks j))) ∧ Hid (Bx wr w.heap.size (.int .i64 d) (.int .i64 cr0) (.slice A2 ks.length c2)) ∧ Hid (Up w wr)) (fun _ _ i _ => ks.length - (intOf i).toNat)
  case atStart =>
    refine ⟨0, by omega, rfl, HM.out, H.out.up ((Chg.refl _ _).alloc _), B0.out.up ((Chg.refl _ _).alloc _), ((Chg.refl _ _).alloc _).alloc _⟩
  case round =>
    obtain ⟨j, hj, rfl, hq, hr, hb, hu⟩ := hrel
    have HZ := Lib.hid hu.out.size
    by_cases hlt : j < ks.length
    · obtain ⟨b, o, rfl, -, hc⟩ := (Hw2.out.up hu.out).ix hlt
      have f1 := hc j hlt
      rw [ix_eq hlt] at f1
      have HKJ := Lib.hid (stB_kind HF.out.k _ (List.getElem_mem hlt))
      have HPS := Lib.hid (posS_succ hlt)
      have HPT := Lib.hid (HF.out.pos hlt)
      obtain ⟨kd, HKD⟩ : ∃ kd, Hid (ks[j] = kd) := ⟨_, Lib.hid rfl⟩
      rw [HKD.out] at f1 HKJ HPS HPT
      obtain ⟨tk, HTK⟩ : ∃ tk : Nat, Hid (takenK kd = tk) := ⟨(takenK kd).toNat, Lib.hid (by have := takenK_bd kd; omega)⟩
      rw [HTK.out] at HPS HPT
      clear hc
      obtain ⟨Ar, cr, rfl, hlr, hcr, har⟩ := hr.out.shape
      have hpl : posS ks j + tk ≤ st.length := by have := HPT.out; simpa using this
      have hdl : (st.drop (posS ks j)).length = st.length - posS ks j := by simp
      have htc : tk ≤ cr := by omega
      have htc2 : (tk : Int) ≤ cr := by omega
      have htl : (tk : Int) ≤ (st.drop (posS ks j)).length := by omega
      have HTKA : Hid (tookAt st ks j = (st.drop (posS ks j)).take tk) := Lib.hid (by unfold tookAt; rw [ix_eq hlt, HKD.out, HTK.out]; simp)
      have HSTL := Lib.hid (stepS_take (st := st) (p := posS ks j) HKJ.out HTK.out.symm hpl)
      have HR := Lib.hid (show Ints wr (fun b => b < w.heap.size) (.slice Ar tk cr) (tookAt st ks j) by rw [HTKA.out]; exact hr.out.took (by omega) rfl)
      have HTL : Hid (((tookAt st ks j).length : Int) = takenK kd) := Lib.hid (by rw [HTKA.out, List.length_take, hdl, HTK.out]; omega)
      have HTLN : Hid ((tookAt st ks j).length = tk) := Lib.hid (by rw [HTKA.out, List.length_take, hdl]; omega)
      have HSA : Hid (stepAt st ks j = stepS kd (ix (tookAt st ks j) 0) (ix (tookAt st ks j) 1)) := Lib.hid (by rw [HTKA.out, HSTL.out.1]; unfold stepAt; rw [ix_eq hlt, HKD.out])
      go_wp2_with fail
      refine (ColumnsTaken_any _ _).mono ?_
      rintro e w' ⟨rfl, rfl⟩
      rw [takenOf_ok HKJ.out, HTK.out]
      go_wp2_with fail
      refine (madeStacks_any _ _ _ (tookAt st ks j) HR.out kd HKJ.out HTL.out (fun x hx => stkB_bd HF.out.s x (List.mem_of_mem_drop (List.mem_of_mem_take hx)))).mono ?_
      rintro e w2 ⟨v2, rfl, k2, g2⟩
      rw [← HSA.out] at k2
      obtain ⟨A3, c3, rfl, hl3, hc3, -⟩ := k2.shape
      have K2 := Lib.hid k2
      have G2 := Lib.hid g2
      have hz2 := g2.size
      clear k2 g2
      have HBX : Hid (w.heap.size + 1 ≤ w2.heap.size) := Lib.hid (by have h := World.block_lt_of_cell? _ _ hb.out.1; have h : w.heap.size < wr.heap.size := h; omega)
      have HQ2 := Lib.hid (hq.out.up G2.out)
      have HR2 := Lib.hid (hr.out.up G2.out)
      have HT2 := Lib.hid (HR.out.up G2.out)
      have HB2 := Lib.hid (hb.out.up G2.out)
      have hcg := HF.out.chg hlt
      have hs1 := HF.out.step hlt
      have hs2 := HF.out.took j
      have y1 : IntKind.i64.wrap (sumS (stepAt st ks j) - sumS (tookAt st ks j)) = sumS (stepAt st ks j) - sumS (tookAt st ks j) := IntWalk.i64_in _ (by unfold chgAt at hcg; omega)
      have HI : Hid (I64 (sumS (stepAt st ks j) - sumS (tookAt st ks j))) := Lib.hid (by unfold chgAt at hcg; unfold I64; omega)
      have HLN : Hid ((chgs st ks j).length + [sumS (stepAt st ks j) - sumS (tookAt st ks j)].length ≤ 1099511627776) := Lib.hid (by rw [chgs_length]; simp; omega)
      have HS1 := Lib.hid (show (stepAt st ks j).length ≤ 100000 ∧ ∀ x ∈ stepAt st ks j, 0 ≤ x ∧ x ≤ 1000 from ⟨by omega, fun x hx => by have := hs1.2 x hx; omega⟩)
      have HS2 := Lib.hid (show (tookAt st ks j).length ≤ 100000 ∧ ∀ x ∈ tookAt st ks j, 0 ≤ x ∧ x ≤ 1000 from ⟨by omega, hs2.2⟩)
      have HCH : Hid (chgAt st ks j = sumS (stepAt st ks j) - sumS (tookAt st ks j)) := Lib.hid rfl
      clear hcg hs1 hs2 HSA HTKA HSTL HTL
      generalize stepAt st ks j = MS at *
      generalize tookAt st ks j = TS at *
      go_wp2
      go_region_law (first | (go_simp; go_at_call 74; with_reducible refine (sumOfS_any _ _ (.slice A3 MS.length c3) MS (K2.out.up (by repeat (first | exact Chg.refl _ _ | apply Chg.drew | apply Chg.drewN | refine Chg.alloc ?_ _))) HS1.out.1 HS1.out.2).mono ?_; rintro e w' ⟨rfl, rfl⟩) | (go_simp; go_at_call 74; with_reducible refine (sumOfS_any _ _ (.slice Ar tk cr) TS (HT2.out.up (by repeat (first | exact Chg.refl _ _ | apply Chg.drew | apply Chg.drewN | refine Chg.alloc ?_ _))) HS2.out.1 HS2.out.2).mono ?_; rintro e w' ⟨rfl, rfl⟩) | (refine step_appI (by rfl) (.tmp 36) (.tmp 44) (by rfl) (w.heap.size + 1) _ (chgs st ks j) (by simp [Act.eval, Act.put]) ((HQ2.out.up (by repeat (first | exact Chg.refl _ _ | apply Chg.drew | apply Chg.drewN | refine Chg.alloc ?_ _))).alloc _) _ _ [sumS MS - sumS TS] (by simp [Act.eval, Act.put]) (lit1 _ _ HI.out 0 (Nat.zero_le _)) HLN.out ?_ ?_; (have h9 := HBX.out; first | omega | (simp; omega)); intro v' w3 ho1 _ _ hg1; have HO := Lib.hid ho1; have HG := Lib.hid hg1; clear ho1 hg1))
      simp [Act.put, goInt]
      have HR3 := Lib.hid ((HR2.out.up (by repeat (first | exact Chg.refl _ _ | apply Chg.drew | apply Chg.drewN | refine Chg.alloc ?_ _))).keep HG.out (fun b hb h1 h9 => by have h1 : b < w.heap.size := h1; have h9 : w.heap.size + 1 ≤ b := h9; omega))
      have HB3 := Lib.hid ((HB2.out.up (by repeat (first | exact Chg.refl _ _ | apply Chg.drew | apply Chg.drewN | refine Chg.alloc ?_ _))).keep HG.out (fun h9 => by have h9 : w.heap.size + 1 ≤ w.heap.size := h9; omega))
      have HU3 := Lib.hid (Chg.new (Chg.trans (Chg.trans hu.out G2.out) (by repeat (first | exact Chg.refl _ _ | apply Chg.drew | apply Chg.drewN | refine Chg.alloc ?_ _))) HG.out (fun i hi h9 => by have h9 : w.heap.size + 1 ≤ i := h9; omega) : Up w w3)
      go_wp2
      go_roundw
      case rel =>
        refine ⟨j + 1, by omega, by go_num, by rw [chgs_succ, HCH.out]; exact HO.out, ?_, HB3.out, HU3.out⟩
        have e9 : posS ks (j + 1) = posS ks j + tk := by rw [HPS.out]; simp
        rw [e9, ← List.drop_drop]
        refine HR3.out.dropt (by omega) (by omega) rfl (fun b o e hlt9 => ?_) (fun e => ?_)
        · subst e
          rw [if_neg (by omega)]
          unfold Addr.add
          by_cases h0 : tk = 0 <;> simp [h0]
        · by_cases h0 : cr = tk
          · omega
          · rw [if_neg h0] at e
            have : Ar = none := by cases Ar with | none => rfl | some a => simp at e
            have := har this
            omega
      case measure => first | (simp [intOf]; done) | (simp [intOf]; omega)
    · obtain rfl : j = ks.length := by omega
      have e0 := hb.out.1
      have e1 := hb.out.2.1
      have e2 := hb.out.2.2
      have hwz : w.heap.size < wr.heap.size := World.block_lt_of_cell? _ _ e0
      have HWZ := Lib.hid hwz
      go_wp2_with fail
      refine (order_any _ (fun b => b < w.heap.size) _ ⟨d, cr0, ks⟩ ⟨_, rfl, Hw2.out.up hu.out, HDI.out, HDC.out⟩ hd hks).mono ?_
      rintro e w2 ⟨v2, rfl, k2, g2⟩
      have HO2 := Lib.hid (show Ints w2 _ v2 (ordM d ks.length) from k2)
      have HU2 := Lib.hid (Chg.trans hu.out g2)
      have HC2 := Lib.hid (hq.out.ints.up g2)
      obtain ⟨A4, c4, rfl, hl4, hc4, -⟩ := k2.shape
      obtain ⟨A5, c5, rfl, hl5, hc5, -⟩ := hq.out.ints.shape
      have hol := ordM_length d ks.length
      clear k2 g2 e0 e1 e2
      go_wp2
      go_loop [5, 14, 53] (fun s _ i => ∃ t : Nat, t ≤ ks.length ∧ i = .int .i64 t ∧ s = .int .i64 (parS d st ks t) ∧ Hid (thinTo d st ks t = true)) (fun _ _ i => ks.length - (intOf i).toNat)
      case atStart => exact ⟨0, by omega, rfl, rfl, rfl⟩
      case round =>
        obtain ⟨t, ht, rfl, rfl, hth⟩ := hrel
        by_cases hlt : t < ks.length
        · obtain ⟨oi, HOI⟩ : ∃ oi : Nat, Hid (ordT d ks.length t = oi) := ⟨_, Lib.hid rfl⟩
          have hoi : oi < ks.length := by rw [← HOI.out]; unfold ordT; split <;> omega
          obtain ⟨b4, o4, rfl, -, hc4'⟩ := HO2.out.ix (show t < (ordM d ks.length).length by omega)
          have f1 := hc4' t (by omega)
          have e1 : ix (ordM d ks.length) t = (oi : Int) := by
            rw [ix_eq (by omega), ordM_get, ← HOI.out]
            unfold ordT
            split <;> omega
          rw [e1] at f1
          have hcl := chgs_length st ks ks.length
          obtain ⟨b5, o5, rfl, -, hc5'⟩ := HC2.out.ix (show oi < (chgs st ks ks.length).length by omega)
          have f2 := hc5' oi (by omega)
          rw [chgs_get st ks hoi] at f2
          have hp1 := HF.out.par d t (by omega)
          have hp2 := HF.out.chg hoi
          have HPT : Hid (parS d st ks (t + 1) = parS d st ks t + chgAt st ks oi) := Lib.hid (by simp only [parS]; rw [HOI.out])
          have y1 : IntKind.i64.wrap (parS d st ks t + chgAt st ks oi) = parS d st ks (t + 1) := by rw [HPT.out]; exact IntWalk.i64_in _ (by omega)
          generalize chgAt st ks oi = cg at *
          have hl1 : (t : Int) < (ordM d ks.length).length := by omega
          have hl2 : (oi : Int) < (chgs st ks ks.length).length := by omega
          clear hc4' hc5' e1
          by_cases h12 : parS d st ks (t + 1) ≤ 12
          · have HT2 : Hid (thinTo d st ks (t + 1) = true) := Lib.hid (by rw [thinTo_succ, hth.out, decide_eq_true h12]; rfl)
            have t12 : decide ((12 : Int) < parS d st ks (t + 1)) = false := decide_eq_false (by omega)
            clear h12
            go_wp2
            go_round
            case rel => exact ⟨t + 1, by omega, by go_num, by first | rfl | rw [y1], HT2.out⟩
            case measure => first | (simp [intOf]; done) | (simp [intOf]; omega)
          · have HV := Lib.hid (thinTo_false hlt h12)
            have t12 : decide ((12 : Int) < parS d st ks (t + 1)) = true := decide_eq_true (by omega)
            clear h12
            go_wp2
            go_ret
            exact ⟨ret_bool (by first | exact HV.out.symm | (unfold thinB; exact HV.out.symm)), HU2.out⟩
        · obtain rfl : t = ks.length := by omega
          go_wp2
          go_ret
          exact ⟨ret_bool (by first | exact hth.out.symm | (unfold thinB; exact hth.out.symm)), HU2.out⟩
end Go.Proofs.YtgdcffbakjfacaaDoor
end
section
set_option linter.unusedSimpArgs false
set_option linter.unusedVariables false
set_option maxRecDepth 100000
set_option maxHeartbeats 1000000
namespace Go.Proofs.YtgdcffbakjfacaaDoor
open Go.ChangeShapes Go.WideShapes Go.ChangeAt Go.RowKit
theorem sumS_take (xs : List Int) {k : Nat} (h : k < xs.length) : sumS (xs.take (k + 1)) = sumS (xs.take k) + ix xs k := by
  rw [List.take_succ_eq_append_getElem h, sumS_append, ix_eq h]; simp [sumS, sumF]
theorem aftTo_pre (st ks : List Int) (m : Nat) : ∀ n, m ≤ n → ∃ Z, aftTo st ks n = aftTo st ks m ++ Z := by
  intro n
  induction n with
  | zero =>
    intro h
    obtain rfl : m = 0 := by omega
    exact ⟨[], by simp⟩
  | succ n ih =>
    intro h
    by_cases e : m = n + 1
    · subst e; exact ⟨[], by simp⟩
    · obtain ⟨Z, hZ⟩ := ih (by omega)
      exact ⟨Z ++ stepAt st ks n, by rw [aftTo_succ, hZ, List.append_assoc]⟩
theorem aft_at {st ks : List Int} {i k : Nat} (hi : i < ks.length) (hk : k < (stepAt st ks i).length) : ix (aftTo st ks ks.length) (posM ks i + k) = ix (stepAt st ks i) k := by
  obtain ⟨Z, hZ⟩ := aftTo_pre st ks (i + 1) ks.length (by omega)
  rw [hZ, aftTo_succ]
  have hl := aftTo_length (st := st) (ks := ks) (j := i) (by omega)
  unfold ix
  rw [List.getD_eq_getElem?_getD, List.getD_eq_getElem?_getD, List.append_assoc, List.getElem?_append_right (by omega), hl, Nat.add_sub_cancel_left, List.getElem?_append_left hk]
theorem sumS_part {xs : List Int} (k : Nat) (h : ∀ x ∈ xs, 0 ≤ x ∧ x ≤ 5) : 0 ≤ sumS (xs.take k) ∧ sumS (xs.take k) ≤ 5 * xs.length := by
  have := sumS_le5 (xs := xs.take k) fun x hx => h x (List.mem_of_mem_take hx)
  rw [List.length_take] at this
  omega
theorem posM_le (ks : List Int) {i n : Nat} (h : i ≤ n) (hn : n ≤ ks.length) : posM ks i ≤ posM ks n := by
  induction n with
  | zero =>
    obtain rfl : i = 0 := by omega
    exact Nat.le_refl _
  | succ n ih =>
    by_cases e : i = n + 1
    · subst e; exact Nat.le_refl _
    · have := ih (by omega) (by omega)
      rw [posM_succ (by omega)]
      omega
end Go.Proofs.YtgdcffbakjfacaaDoor
end
namespace Go.Proofs.YtgdcffbakjfacaaDoor
open Go.ChangeShapes Go.WideShapes Go.ChangeAt Go.RowKit
structure ChartM where
  n : Int
  rs : List RowM
/-- a slice of rows -/
def RowsV (w : World) (S : Nat → Prop) (v : Value) (rs : List RowM) : Prop :=
  ∃ A c, v = .slice A rs.length c ∧ rs.length ≤ c ∧ c ≤ 9223372036854775807 ∧ (0 < rs.length → ∃ b o, A = some ⟨b, o, none⟩ ∧ S b ∧ ∀ i (hi : i < rs.length), RowAt w S b (o + i * 3) rs[i]) ∧ (A = none → c = 0)
section
variable {S T : Nat → Prop} {w w' : World} {v : Value} {rs : List RowM}
theorem RowAt.lt {b o : Nat} {r : RowM} (h : RowAt w S b o r) : b < w.heap.size := by
  obtain ⟨A, c, h1, h2, h3, h4, h5, h6, h7, h8⟩ := h
  exact h8
theorem RowAt.mono {b o : Nat} {r : RowM} (h : RowAt w S b o r) (hs : ∀ b, b < w.heap.size → S b → T b) : RowAt w T b o r := by
  obtain ⟨A, c, h1, h2, h3, h4, h5, h6, h7, h8⟩ := h
  exact ⟨A, c, h1, h2, h3, h4.mono hs, h5, h6, h7, h8⟩
theorem RowsV.keep (h : RowsV w S v rs) (g : Chg T w w') (hd : ∀ b, b < w.heap.size → S b → ¬ T b) : RowsV w' S v rs := by
  obtain ⟨A, c, hv, h1, h2, h4, h5⟩ := h
  refine ⟨A, c, hv, h1, h2, fun hp => ?_, h5⟩
  obtain ⟨b, o, ha, hs, hc⟩ := h4 hp
  exact ⟨b, o, ha, hs, fun i hi => (hc i hi).keep g hd (hd b (hc i hi).lt hs)⟩
theorem RowsV.up (h : RowsV w S v rs) (g : Up w w') : RowsV w' S v rs := h.keep g fun _ _ _ h => h
theorem RowsV.mono (h : RowsV w S v rs) (hs : ∀ b, b < w.heap.size → S b → T b) : RowsV w T v rs := by
  obtain ⟨A, c, hv, h1, h2, h4, h5⟩ := h
  refine ⟨A, c, hv, h1, h2, fun hp => ?_, h5⟩
  obtain ⟨b, o, ha, hS, hc⟩ := h4 hp
  exact ⟨b, o, ha, hs b (hc 0 hp).lt hS, fun i hi => (hc i hi).mono hs⟩
theorem RowsV.shape (h : RowsV w S v rs) : ∃ A c, v = .slice A rs.length c ∧ rs.length ≤ c ∧ c ≤ 9223372036854775807 ∧ (A = none → c = 0) :=
  let ⟨A, c, h1, h2, h3, _, h4⟩ := h; ⟨A, c, h1, h2, h3, h4⟩
theorem RowsV.at_ {A : Option Addr} {c : Nat} (h : RowsV w S (.slice A rs.length c) rs) {i : Nat} (hi : i < rs.length) : ∃ b o, A = some ⟨b, o, none⟩ ∧ ∀ j (hj : j < rs.length), RowAt w S b (o + j * 3) rs[j] := by
  obtain ⟨A', c', he, h1, h2, h4, h5⟩ := h
  obtain ⟨rfl, rfl⟩ : A = A' ∧ c = c' := by simpa using he
  obtain ⟨b, o, ha, hS, hc⟩ := h4 (by omega)
  exact ⟨b, o, ha, hc⟩
end
/-- a chart by value -/
def ChartV (w : World) (S : Nat → Prop) (v : Value) (c : ChartM) : Prop := ∃ s, v = .agg #[.int .i64 c.n, s] ∧ RowsV w S s c.rs ∧ I64 c.n
theorem ChartV.shape {w : World} {S : Nat → Prop} {v : Value} {c : ChartM} (h : ChartV w S v c) : ∃ A k, v = .agg #[.int .i64 c.n, .slice A c.rs.length k] ∧ RowsV w S (.slice A c.rs.length k) c.rs ∧ c.rs.length ≤ k ∧ k ≤ 9223372036854775807 ∧ I64 c.n := by
  obtain ⟨s, h1, h2, h3⟩ := h
  obtain ⟨A, k, rfl, h4, h5, _⟩ := h2.shape
  exact ⟨A, k, h1, h2, h4, h5, h3⟩
/-- a chart behind a pointer -/
def ChartAt (w : World) (S : Nat → Prop) (b o : Nat) (c : ChartM) : Prop :=
  ∃ A k, w.cell? ⟨b, o, none⟩ = some (.int .i64 c.n) ∧ w.cell? ⟨b, o + 1, none⟩ = some (.slice A c.rs.length k) ∧ RowsV w S (.slice A c.rs.length k) c.rs ∧ c.rs.length ≤ k ∧ k ≤ 9223372036854775807 ∧ I64 c.n ∧ b < w.heap.size
theorem ChartAt.keep {S T : Nat → Prop} {w w' : World} {b o : Nat} {c : ChartM} (h : ChartAt w S b o c) (g : Chg T w w') (hd : ∀ b, b < w.heap.size → S b → ¬ T b) (hb : ¬ T b) : ChartAt w' S b o c := by
  obtain ⟨A, k, h1, h2, h3, h4, h5, h6, h7⟩ := h
  exact ⟨A, k, g.cell h1 hb, g.cell h2 hb, h3.keep g hd, h4, h5, h6, Nat.lt_of_lt_of_le h7 g.size⟩
theorem ChartAt.up {S : Nat → Prop} {w w' : World} {b o : Nat} {c : ChartM} (h : ChartAt w S b o c) (g : Up w w') : ChartAt w' S b o c := h.keep g (fun _ _ _ h => h) id
/-- the row at a place -/
def rowI (rs : List RowM) (i : Nat) : RowM := rs.getD i ⟨0, 0, []⟩
theorem rowI_eq {rs : List RowM} {i : Nat} (h : i < rs.length) : rowI rs i = rs[i] := by unfold rowI; simp [h]
/-- the stacks ahead of row j -/
def atS (n : Int) (rs : List RowM) : Nat → List Int
  | 0 => List.replicate n.toNat 1
  | j + 1 => saL (atS n rs j) (rowI rs j).xs
def okR (st : List Int) (r : RowM) : Bool := rowB r.d r.c r.xs && (decide (saC st r.xs = 0) && thinB r.d st r.xs)
def okC (n : Int) (rs : List RowM) (j : Nat) : Bool := (List.range j).all fun i => okR (atS n rs i) (rowI rs i)
def outC (n : Int) (rs : List RowM) (j : Nat) : List (List Int) := (List.range j).map fun i => atS n rs (i + 1)
theorem okC_succ (n : Int) (rs : List RowM) (j : Nat) : okC n rs (j + 1) = (okC n rs j && okR (atS n rs j) (rowI rs j)) := by
  unfold okC; rw [List.range_succ, List.all_append]; simp
theorem outC_succ (n : Int) (rs : List RowM) (j : Nat) : outC n rs (j + 1) = outC n rs j ++ [saL (atS n rs j) (rowI rs j).xs] := by
  unfold outC; rw [List.range_succ, List.map_append]; rfl
theorem outC_length (n : Int) (rs : List RowM) (j : Nat) : (outC n rs j).length = j := by simp [outC]
theorem okC_false {n : Int} {rs : List RowM} {j m : Nat} (hj : j < m) (h : okR (atS n rs j) (rowI rs j) = false) : okC n rs m = false := by
  unfold okC
  rw [Bool.eq_false_iff]
  intro hh
  rw [List.all_eq_true.1 hh j (by simpa using hj)] at h
  cases h
def sizeB (c : ChartM) : Bool := inB c.n 1 8 && inB c.rs.length 1 8
def chartB (c : ChartM) : Bool := sizeB c && okC c.n c.rs c.rs.length
def chartL (c : ChartM) : List (List Int) := if chartB c then outC c.n c.rs c.rs.length else []
theorem chart_no {c : ChartM} (h : sizeB c = false) : chartB c = false ∧ chartL c = [] := by
  have e : chartB c = false := by unfold chartB; rw [h]; rfl
  exact ⟨e, by unfold chartL; rw [e]; rfl⟩
theorem chart_bad {c : ChartM} {j : Nat} (hj : j < c.rs.length) (h : okR (atS c.n c.rs j) (rowI c.rs j) = false) : chartB c = false ∧ chartL c = [] := by
  have e : chartB c = false := by unfold chartB; rw [okC_false hj h, Bool.and_false]
  exact ⟨e, by unfold chartL; rw [e]; rfl⟩
theorem chart_yes {c : ChartM} (h : sizeB c = true) (h2 : okC c.n c.rs c.rs.length = true) : chartB c = true ∧ chartL c = outC c.n c.rs c.rs.length := by
  have e : chartB c = true := by unfold chartB; rw [h, h2]; rfl
  exact ⟨e, by unfold chartL; rw [e]; rfl⟩
set_option maxRecDepth 100000 in
/-- 'out = append(out, list)', where the list was made behind the row -/
theorem wp_append_ss2 {w : World} {ops : Array Oper} {rest : List Oper} {o : Oper} {a : Act} {Q : Exit → Act → World → Prop} (hgd : o.guard = none) (s x : Operand)
    (ho : o.op = .call { callee := .builtin .append, args := #[s, x], argTypes := #[24, 24] })
    (base : Nat) (wr : World) (v : Value) (xss : List (List Int)) (hs : a.eval s = v) (hown : OwnSS wr base v xss) (hup : Up wr w)
    (g : Nat) (u : Value) (ys : List Int) (hx : a.eval x = .slice (some ⟨g, 0, none⟩) 1 1) (hc : w.cell? ⟨g, 0, none⟩ = some u) (hu : Ints w (New wr.heap.size w.heap.size) u ys) (hlen : xss.length ≤ 1099511627) (hbase : base ≤ wr.heap.size)
    (h : ∀ v' w', OwnSS w' base v' (xss ++ [ys]) → Chg (fun k => base ≤ k ∧ k < wr.heap.size) w w' → wpList Tryd.prog ops Q rest (a.put o.dst v') w') : wpList Tryd.prog ops Q (o :: rest) a w := by
  obtain ⟨i0, hi, hz0, hz1, hz2⟩ := info_parts infoS
  obtain ⟨A, c, rfl, -⟩ := hu.shape
  obtain ⟨vs, q, h1, h2, h3, h4⟩ := hown
  have hsz := hup.size
  have h1' := ownsRow_kept h1 hup (fun _ _ h => h)
  refine wpList_append_own2 (P := Tryd.prog) hgd s x 24 ho base 31 i0 (.slice none 0 0) 1 24 Tryd.underlying24 hi hz0 hz1 hz2 rfl (by decide) v xss.length _ hs h1' ⟨g, 0, none⟩ 1 1 [.slice A ys.length c] hx rfl ?_ ?_ ?_ ?_ (by omega) ?_
  · intro j r hr
    cases j with
    | zero => simp only [List.getElem?_cons_zero, Option.some.injEq] at hr; subst hr; rw [add_zero]; exact hc
    | succ j => simp at hr
  · intro r hr; simp at hr; subst hr; rfl
  · unfold Go.maxLen; omega
  · omega
  · intro v' w' k1 k2 k3
    have hlt := h1.lt
    have hown2 : ∀ b, v.ownBlock = some b → b < wr.heap.size := fun b hb => (hlt b hb).2
    have hvl : vs.length = xss.length := by have := h1.1; omega
    refine h v' w' ⟨vs ++ [.slice A ys.length c], fun i b => (i < xss.length ∧ q i b) ∨ (i = xss.length ∧ New wr.heap.size w.heap.size b), by simpa using k1, ?_, ?_, ?_⟩ ((Chg.refl _ _).grown k2 fun k hk => .inl (hlt k hk))
    · rintro i b (⟨hi', hq⟩ | ⟨rfl, hq⟩)
      · obtain ⟨a1, a2, a3⟩ := h2 i b hq
        refine ⟨a1, by have := k2.size; omega, fun hh => ?_⟩
        rcases k3 b hh with k4 | k4
        · exact a3 k4
        · omega
      · refine ⟨by have := hq.1; omega, by have := k2.size; have := hq.2; omega, fun hh => ?_⟩
        rcases k3 b hh with k4 | k4
        · have := hown2 b k4; have := hq.1; omega
        · have := hq.2; omega
    · rintro i j b (⟨hi', hq⟩ | ⟨rfl, hq⟩) (⟨hj', hq'⟩ | ⟨rfl, hq'⟩)
      · exact h3 i j b hq hq'
      · have := (h2 i b hq).2.1; have := hq'.1; omega
      · have := (h2 j b hq').2.1; have := hq.1; omega
      · rfl
    · intro i hi'
      have hC := Chg.of_grown k2
      by_cases he : i < xss.length
      · obtain ⟨r, hr, hk⟩ := h4 i he
        refine ⟨r, by rw [List.getElem?_append_left (by omega)]; exact hr, ?_⟩
        rw [List.getElem_append_left he]
        exact ((hk.up hup).keep hC (fun b _ hq hb => (h2 i b hq).2.2 hb)).mono (fun b _ hq => .inl ⟨he, hq⟩)
      · have hi2 : i = xss.length := by simp at hi'; omega
        subst hi2
        refine ⟨.slice A ys.length c, by rw [List.getElem?_append_right (by omega), hvl]; simp, ?_⟩
        rw [List.getElem_append_right (by omega)]
        simp only [Nat.sub_self, List.getElem_cons_zero]
        exact (hu.keep hC (fun b _ hq hb => by have := hown2 b hb; have := hq.1; omega)).mono (fun b _ hq => .inr ⟨by first | rfl | trivial, hq⟩)
end Go.Proofs.YtgdcffbakjfacaaDoor
namespace Go.Proofs.YtgdcffbakjfacaaDoor
open Go.ChangeShapes Go.WideShapes Go.ChangeAt Go.RowKit
structure FloM where
  row : Int
  car : Int
  fr : Int
  til : Int
def FloM.cells (x : FloM) : List Value := [.int .i64 x.row, .int .i64 x.car, .int .i64 x.fr, .int .i64 x.til]
def FloM.ok (x : FloM) : Prop := I64 x.row ∧ I64 x.car ∧ I64 x.fr ∧ I64 x.til
theorem FloM.cells_length (x : FloM) : x.cells.length = 4 := rfl
abbrev FloM.val (x : FloM) : Value := .agg #[.int .i64 x.row, .int .i64 x.car, .int .i64 x.fr, .int .i64 x.til]
/-- a slice that reads as the list xs -/
def Flos (w : World) (S : Nat → Prop) (v : Value) (xs : List FloM) : Prop := Raw w S 4 v xs.length (xs.flatMap FloM.cells) ∧ ∀ x ∈ xs, x.ok
section
variable {S T : Nat → Prop} {w w' : World} {v : Value} {xs : List FloM}
theorem Flos.keep (h : Flos w S v xs) (g : Chg T w w') (hd : ∀ b, b < w.heap.size → S b → ¬ T b) : Flos w' S v xs := ⟨h.1.keep g hd, h.2⟩
theorem Flos.up (h : Flos w S v xs) (g : Up w w') : Flos w' S v xs := ⟨h.1.up g, h.2⟩
theorem Flos.alloc' (h : Flos w S v xs) (o : Obj) : Flos (w.alloc o) S v xs := h.up ((Chg.refl _ _).alloc o)
theorem Flos.mono (h : Flos w S v xs) (hs : ∀ b, b < w.heap.size → S b → T b) : Flos w T v xs := ⟨h.1.mono hs, h.2⟩
theorem Flos.shape (h : Flos w S v xs) : ∃ A c, v = .slice A xs.length c ∧ xs.length ≤ c ∧ c ≤ 9223372036854775807 ∧ (A = none → c = 0) := h.1.shape
theorem Flos.nil (w : World) (S : Nat → Prop) (c : Nat) (A : Option Addr) (hc : c ≤ 9223372036854775807) (hA : A = none → c = 0 := by simp) : Flos w S (.slice A 0 c) [] := ⟨Raw.nil w S 4 c A hc hA, by simp⟩
theorem Flos.at_ (h : Flos w S v xs) {i : Nat} (hi : i < xs.length) : ∃ b o c, v = .slice (some ⟨b, o, none⟩) xs.length c ∧ S b ∧ b < w.heap.size ∧
    ∀ j u, (xs[i].cells)[j]? = some u → w.cell? ⟨b, o + i * 4 + j, none⟩ = some u ∧ w.frozen? ⟨b, o + i * 4 + j, none⟩ = false := Raw.at_ FloM.cells_length h.1 hi
end
/-- a slice of the call's own, from block base on -/
def OwnFlos (w : World) (base : Nat) (v : Value) (xs : List FloM) : Prop :=
  w.ownsRow base 72 4 v xs.length (xs.flatMap FloM.cells) ∧ ∀ x ∈ xs, x.ok
theorem OwnFlos.nil (w : World) (base : Nat) : OwnFlos w base (.slice none 0 0) [] := ⟨World.ownsRow_nil _ _ _ _, by simp⟩
theorem OwnFlos.made (w : World) (base : Nat) (hb : base ≤ w.heap.size) : OwnFlos (w.alloc (.cells #[] 72)) base (.slice (some ⟨w.heap.size, 0, none⟩) 0 0) [] :=
  ⟨World.ownsRow_made w _ 0 hb (by unfold Go.maxLen; omega) (by simp), by simp⟩
theorem OwnFlos.alloc {w : World} {base : Nat} {v : Value} {xs : List FloM} (h : OwnFlos w base v xs) (o : Obj) : OwnFlos (w.alloc o) base v xs := ⟨h.1.alloc o, h.2⟩
theorem OwnFlos.kept {w w' : World} {base : Nat} {v : Value} {xs : List FloM} {S : Nat → Prop} (h : OwnFlos w base v xs) (k : Chg S w w') (hS : ∀ g, v.ownBlock = some g → ¬ S g) : OwnFlos w' base v xs := by
  refine ⟨⟨h.1.1, ?_⟩, h.2⟩
  rcases h.1.2 with h2 | ⟨g, cap, cur, rfl, hg, hh, r⟩
  · exact Or.inl h2
  · exact Or.inr ⟨g, cap, cur, rfl, hg, (k.block g (Array.getElem?_eq_some_iff.1 hh).1 (hS g rfl)).trans hh, r⟩
theorem OwnFlos.up {w w' : World} {base : Nat} {v : Value} {xs : List FloM} (h : OwnFlos w base v xs) (k : Up w w') : OwnFlos w' base v xs := h.kept k fun _ _ h => h
theorem OwnFlos.rd {w : World} {base : Nat} {v : Value} {xs : List FloM} (h : OwnFlos w base v xs) : Flos w (New base w.heap.size) v xs := ⟨Raw.of_own h.1, h.2⟩
theorem OwnFlos.lt {w : World} {base : Nat} {v : Value} {xs : List FloM} (h : OwnFlos w base v xs) {g : Nat} (hg : v.ownBlock = some g) : base ≤ g ∧ g < w.heap.size := h.1.lt g hg
theorem infoFlos : (Tryd.prog.info? 72).map (fun i => (i.zero, i.size, i.bytes)) = some (some (FloM.mk 0 0 0 0).val, 4, 32) := by kernel_rfl
theorem cells_oneFlos (x : FloM) : ∀ u ∈ x.cells, u.oneCell' = true := by
  intro u hu
  simp only [FloM.cells, List.mem_cons, List.not_mem_nil, or_false] at hu
  rcases hu with rfl | rfl | rfl | rfl <;> rfl
set_option maxRecDepth 100000 in
theorem wp_appendFlos {w : World} {ops : Array Oper} {rest : List Oper} {o : Oper} {a : Act} {Q : Exit → Act → World → Prop} (hgd : o.guard = none) (s x : Operand)
    (ho : o.op = .call { callee := .builtin .append, args := #[s, x], argTypes := #[68, 68] })
    (base : Nat) (v : Value) (xs : List FloM) (hs : a.eval s = v) (hown : OwnFlos w base v xs)
    (S : Nat → Prop) (u : Value) (ys : List FloM) (hx : a.eval x = u) (hsrc : Flos w S u ys) (hlen : xs.length + ys.length ≤ 1099511627776) (hbase : base ≤ w.heap.size)
    (h : ∀ v' w', OwnFlos w' base v' (xs ++ ys) → w.grownBy w' v.ownBlock → Chg (fun k => base ≤ k) w w' → wpList Tryd.prog ops Q rest (a.put o.dst v') w') : wpList Tryd.prog ops Q (o :: rest) a w := by
  obtain ⟨i0, hi, hz0, hz1, hz2⟩ := info_parts infoFlos
  obtain ⟨⟨hl, A, c, rfl, hlc, hcm, hr, hnn⟩, hok⟩ := hsrc
  have hok' : ∀ y ∈ xs ++ ys, y.ok := fun y hy => (List.mem_append.1 hy).elim (hown.2 y) (hok y)
  cases A with
  | none =>
    have hy : ys = [] := by
      rcases Nat.eq_zero_or_pos ys.length with h0 | h0
      · exact List.eq_nil_of_length_eq_zero h0
      · obtain ⟨b, oo, h1, _⟩ := hr h0
        cases h1
    subst hy
    obtain rfl := hnn rfl
    refine wpList_append_own_none hgd s x 68 ho base 72 i0 4 Tryd.underlying68 hi v xs.length _ hs hown.1 hx ?_
    exact h v w (by simpa using hown) (World.grownBy.refl w _) (Chg.refl _ _)
  | some ad =>
    have hnews : ∀ j q, (ys.flatMap FloM.cells)[j]? = some q → w.cell? (ad.add j) = some q := by
      intro j q hq
      obtain ⟨hj, he⟩ := List.getElem?_eq_some_iff.1 hq
      have hp : 0 < ys.length := by
        rcases Nat.eq_zero_or_pos ys.length with h0 | h0
        · rw [List.eq_nil_of_length_eq_zero h0] at hj; simp at hj
        · exact h0
      obtain ⟨b, oo, h1, _, _, hc⟩ := hr hp
      injection h1 with h1
      subst h1
      have := (hc j hj).1
      rw [he] at this
      rw [← this]
      unfold Addr.add
      by_cases h0 : j = 0 <;> simp [h0]
    refine wpList_append_own (P := Tryd.prog) w hgd s x 68 ho base 72 i0 _ 4 32 Tryd.underlying68 hi hz0 hz1 hz2 rfl (by decide) v xs.length _ hs hown.1 ad ys.length c (ys.flatMap FloM.cells) hx hl hnews ?_ ?_ ?_ hbase ?_
    · intro q hq
      obtain ⟨y, _, hy⟩ := List.mem_flatMap.1 hq
      exact cells_oneFlos y q hy
    · unfold Go.maxLen; omega
    · omega
    · intro v' w' h2 h3 _
      exact h v' w' ⟨by simpa using h2, hok'⟩ h3 ((Chg.refl _ _).grown h3 fun k hk => .inl (hown.1.lt k hk).1)
set_option maxRecDepth 100000 in
/-- the same at a step of a region that draws its order -/
theorem step_appendFlos {w : World} {ops : Array Oper} {o : Oper} {a : Act} {K : Act → World → Prop} {Q : Exit → Act → World → Prop} {E : Prop} (hgd : o.guard = none) (s x : Operand)
    (ho : o.op = .call { callee := .builtin .append, args := #[s, x], argTypes := #[68, 68] })
    (base : Nat) (v : Value) (xs : List FloM) (hs : a.eval s = v) (hown : OwnFlos w base v xs)
    (S : Nat → Prop) (u : Value) (ys : List FloM) (hx : a.eval x = u) (hsrc : Flos w S u ys) (hlen : xs.length + ys.length ≤ 1099511627776) (hbase : base ≤ w.heap.size)
    (h : ∀ v' w', OwnFlos w' base v' (xs ++ ys) → w.grownBy w' v.ownBlock → Chg (fun k => base ≤ k) w w' → K (a.put o.dst v') w') :
    if Region.wanted o (yielded ops a.tmps) = true then Oper.wp Tryd.prog o a w K Q else E := by
  have hw : Region.wanted o (yielded ops a.tmps) = true := by simp [Region.wanted, hgd]
  rw [if_pos hw]
  obtain ⟨i0, hi, hz0, hz1, hz2⟩ := info_parts infoFlos
  obtain ⟨⟨hl, A, c, rfl, hlc, hcm, hr, hnn⟩, hok⟩ := hsrc
  have hok' : ∀ y ∈ xs ++ ys, y.ok := fun y hy => (List.mem_append.1 hy).elim (hown.2 y) (hok y)
  cases A with
  | none =>
    have hy : ys = [] := by
      rcases Nat.eq_zero_or_pos ys.length with h0 | h0
      · exact List.eq_nil_of_length_eq_zero h0
      · obtain ⟨b, oo, h1, _⟩ := hr h0
        cases h1
    subst hy
    obtain rfl := hnn rfl
    have hrun := run_append_owned_none (P := Tryd.prog) (w := w) base 68 o.type 72 i0 4 Tryd.underlying68 hi v xs.length _ hown.1
    have hK := h v w (by simpa using hown) (World.grownBy.refl w _) (Chg.refl _ _)
    unfold Oper.wp
    simp [execOp, ho, resolve, invoke, builtin, hs, hx, hrun, Result.andThen]
    exact hK
  | some ad =>
    have hnews : ∀ j q, (ys.flatMap FloM.cells)[j]? = some q → w.cell? (ad.add j) = some q := by
      intro j q hq
      obtain ⟨hj, he⟩ := List.getElem?_eq_some_iff.1 hq
      have hp : 0 < ys.length := by
        rcases Nat.eq_zero_or_pos ys.length with h0 | h0
        · rw [List.eq_nil_of_length_eq_zero h0] at hj; simp at hj
        · exact h0
      obtain ⟨b, oo, h1, _, _, hc⟩ := hr hp
      injection h1 with h1
      subst h1
      have := (hc j hj).1
      rw [he] at this
      rw [← this]
      unfold Addr.add
      by_cases h0 : j = 0 <;> simp [h0]
    refine wp_append_own (P := Tryd.prog) w s x 68 ho base 72 i0 _ 4 32 Tryd.underlying68 hi hz0 hz1 hz2 rfl (by decide) v xs.length _ hs hown.1 ad ys.length c (ys.flatMap FloM.cells) hx hl hnews ?_ ?_ ?_ hbase ?_
    · intro q hq
      obtain ⟨y, _, hy⟩ := List.mem_flatMap.1 hq
      exact cells_oneFlos y q hy
    · unfold Go.maxLen; omega
    · omega
    · intro v' w' h2 h3 _
      exact h v' w' ⟨by simpa using h2, hok'⟩ h3 ((Chg.refl _ _).grown h3 fun k hk => .inl (hown.1.lt k hk).1)
theorem wp_append1Flos {w : World} {ops : Array Oper} {rest : List Oper} {o : Oper} {a : Act} {Q : Exit → Act → World → Prop} (hgd : o.guard = none) (s x : Operand)
    (ho : o.op = .call { callee := .builtin .append, args := #[s, x], argTypes := #[68, 68] })
    (base : Nat) (v : Value) (xs : List FloM) (hs : a.eval s = v) (hown : OwnFlos w base v xs)
    (g : Nat) (y : FloM) (hx : a.eval x = .slice (some ⟨g, 0, none⟩) 1 1) (hh : w.heap[g]? = some (.cells y.cells.toArray 72 (0, 0))) (hy : y.ok) (hlen : xs.length ≤ 1099511627775) (hbase : base ≤ w.heap.size)
    (h : ∀ v' w', OwnFlos w' base v' (xs ++ [y]) → w.grownBy w' v.ownBlock → Chg (fun k => base ≤ k) w w' → wpList Tryd.prog ops Q rest (a.put o.dst v') w') : wpList Tryd.prog ops Q (o :: rest) a w :=
  wp_appendFlos hgd s x ho base v xs hs hown (fun _ => True) _ [y] hx ⟨Raw.of_block hh (by simp) trivial rfl (by simp) (by omega), by simpa using hy⟩ (by simp; omega) hbase h
end Go.Proofs.YtgdcffbakjfacaaDoor
namespace Go.Proofs.YtgdcffbakjfacaaDoor
open Go.ChangeShapes Go.WideShapes Go.ChangeAt Go.RowKit
def bedB (b : Int) : Bool := decide (b = 1 ∨ b = 2)
def placeB (a : Int) : Bool := decide (0 ≤ a ∧ a ≤ 23)
def needleB (b a : Int) : Bool := bedB b && placeB a
def dirB (d : Int) : Bool := decide (d = 1 ∨ d = -1)
def carB (c : Int) : Bool := decide (1 ≤ c ∧ c ≤ 4)
def rackB (r : Int) : Bool := decide (-3 ≤ r ∧ r ≤ 3)
theorem isDirection_any (n : Int) (w : World) : Calls Tryd.prog 68 #[.int .i64 n] w fun e w' => e = .returned (.bool (dirB n)) ∧ w = w' := by
  cases h : dirB n
  · have h1 := of_decide_eq_false h
    exact isDirection_no n w (by omega)
  · have h1 := of_decide_eq_true h
    exact isDirection_yes n w (by omega)
theorem isCarrier_any (n : Int) (w : World) : Calls Tryd.prog 28 #[.int .i64 n] w fun e w' => e = .returned (.bool (carB n)) ∧ w = w' := by
  cases h : carB n
  · have h1 := of_decide_eq_false h
    exact isCarrier_no n w (by omega)
  · have h1 := of_decide_eq_true h
    exact isCarrier_yes n w (by omega)
/-- what operations are valid -/
def validB (x : OpM) : Bool :=
  if x.kind = 1 ∨ x.kind = 2 ∨ x.kind = 3 then dirB x.dir && needleB x.fb x.fa && carB x.car && x.tb == 0 && x.ta == 0 && x.rack == 0
  else if x.kind = 4 then needleB x.fb x.fa && needleB x.tb x.ta && x.fb != x.tb && x.dir == 0 && x.car == 0 && x.rack == 0
  else if x.kind = 5 then needleB x.fb x.fa && needleB x.tb x.ta && x.fb != x.tb && dirB x.dir && carB x.car && x.rack == 0
  else if x.kind = 6 then needleB x.fb x.fa && x.dir == 0 && x.tb == 0 && x.ta == 0 && x.car == 0 && x.rack == 0
  else if x.kind = 7 then rackB x.rack && x.dir == 0 && x.fb == 0 && x.fa == 0 && x.tb == 0 && x.ta == 0 && x.car == 0
  else if x.kind = 8 then dirB x.dir && carB x.car && x.fb == 0 && x.fa == 0 && x.tb == 0 && x.ta == 0 && x.rack == 0
  else if x.kind = 9 then carB x.car && x.dir == 0 && x.fb == 0 && x.fa == 0 && x.tb == 0 && x.ta == 0 && x.rack == 0
  else false
end Go.Proofs.YtgdcffbakjfacaaDoor
