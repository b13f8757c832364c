/- The program's CarriersOf answers as the reference's, for every chart; what it is given stays as it was; its memory is its own. No condition. -/
import Derived.Test.YtnjfhpgmogopnaaStk6
import Derived.Test.YtnjfhpgmogopnaaStepI
import Derived.Test.YtnjfhpgmogopnaaOrd
import Derived.Deep.RegionLaw
import Derived.Test.YtnjfhpgmogopnaaRep
import Derived.Test.YtnjfhpgmogopnaaRow3
import Derived.Test.YtnjfhpgmogopnaaOwnS
import Derived.Test.YtnjfhpgmogopnaaUpR
import Derived.Test.YtnjfhpgmogopnaaRowLaw
import Derived.Test.YtnjfhpgmogopnaaCopy
import Derived.Test.YtnjfhpgmogopnaaRowL
import Derived.Shelf.SortG.Plain
import Derived.Shelf.SortG.SortNone
import Derived.Ground.SlgnProg
import Derived.Test.YtnjfhpgmogopnaaProg
import Derived.Test.YtnjfhpgmogopnaaShelfR6
import Derived.Test.YtnjfhpgmogopnaaOpenS
set_option linter.unusedSimpArgs false
set_option linter.unusedVariables false
set_option maxRecDepth 100000
set_option maxHeartbeats 1000000
namespace Go.Proofs.Ytnjfhpgmogopnaa
open Go.ChangeShapes Go.WideShapes Go.ChangeAt Go.RowKit
def sumS (xs : List Int) : Int := sumF id xs
theorem sumS_append (xs ys : List Int) : sumS (xs ++ ys) = sumS xs + sumS ys := sumF_append id xs ys
theorem sumS_bd {xs : List Int} (hb : ∀ x ∈ xs, 0 ≤ x ∧ x ≤ 1000) : 0 ≤ sumS xs ∧ sumS xs ≤ 1000 * xs.length := by
  induction xs with
  | nil => simp [sumS, sumF]
  | cons x xs ih =>
    have h1 := ih (fun y hy => hb y (List.mem_cons_of_mem _ hy))
    have h2 := hb x List.mem_cons_self
    simp only [sumS, sumF, id_eq, List.length_cons] at *
    omega
theorem sumOfS_any (w : World) (S : Nat → Prop) (v : Value) (xs : List Int) (h : Ints w S v xs) (hl : xs.length ≤ 100000) (hb : ∀ x ∈ xs, 0 ≤ x ∧ x ≤ 1000) :
    Calls Try.prog 254 #[v] w fun e w' => e = .returned (.int .i64 (sumS xs)) ∧ w = w' := by
  obtain ⟨A, c, rfl, hlc, hcm, -⟩ := h.shape
  have H := Lib.hid h
  have HB := Lib.hid hb
  clear h hb
  go_enter Try.func254, Try.ntmps254
  go_wp2
  go_loop [3, 5, 8] (fun s _ i => ∃ j : Nat, j ≤ xs.length ∧ i = .int .i64 j ∧ s = .int .i64 (sumS (xs.take j))) (fun _ _ i => xs.length - (intOf i).toNat)
  case atStart => exact ⟨0, by omega, rfl, rfl⟩
  case round =>
    obtain ⟨j, hj, rfl, rfl⟩ := hrel
    by_cases hlt : j < xs.length
    · obtain ⟨b, o, rfl, -, hc⟩ := H.out.ix hlt
      have f1 := hc j hlt
      rw [ix_eq hlt] at f1
      have hx := HB.out xs[j] (List.getElem_mem hlt)
      have hs := sumS_bd (xs := xs.take j) (fun x hx => HB.out x (List.mem_of_mem_take hx))
      have hq : (xs.take j).length ≤ 100000 := by rw [List.length_take]; omega
      have HT := Lib.hid (show sumS (xs.take (j + 1)) = sumS (xs.take j) + xs[j] by rw [List.take_succ_eq_append_getElem hlt, sumS_append]; simp [sumS, sumF])
      clear hc
      go_wp2
      go_round
      case rel => exact ⟨j + 1, by omega, by go_num, by rw [HT.out]⟩
      case measure => simp [intOf]; omega
    · obtain rfl : j = xs.length := by omega
      have HX := Lib.hid (show xs.take xs.length = xs by rw [List.take_length])
      go_wp2
      go_ret
      exact ⟨ret_int (by simp), rfl⟩

def posM (ks : List Int) (j : Nat) : Nat := (sumF madeK (ks.take j)).toNat
theorem posM_int (ks : List Int) (j : Nat) : (posM ks j : Int) = sumF madeK (ks.take j) := by
  unfold posM
  have := sumF_bd madeK 0 4 (by omega) (fun x => by have := madeK_bd x; omega) (ks.take j)
  omega
theorem posM_succ {ks : List Int} {j : Nat} (h : j < ks.length) : posM ks (j + 1) = posM ks j + (madeK ks[j]).toNat := by
  have h1 := posM_int ks j
  have h2 := posM_int ks (j + 1)
  rw [sumF_take madeK h] at h2
  have := madeK_bd ks[j]
  omega
theorem stepS_len (k a b : Int) : (stepS k a b).length = (madeK k).toNat := by
  unfold stepS
  split
  · rename_i h; subst h; rfl
  · split
    · rename_i h; subst h; rfl
    · simp
theorem aftTo_length {st ks : List Int} : ∀ {j : Nat}, j ≤ ks.length → (aftTo st ks j).length = posM ks j
  | 0, _ => rfl
  | j + 1, h => by
    rw [aftTo_succ, List.length_append, aftTo_length (by omega), posM_succ (by omega)]
    unfold stepAt
    rw [stepS_len, ix_eq (by omega)]
/-- the stacks that a stitch takes -/
def tookAt (st ks : List Int) (i : Nat) : List Int := (st.drop (posS ks i)).take (takenK (ix ks i)).toNat
def chgAt (st ks : List Int) (i : Nat) : Int := sumS (stepAt st ks i) - sumS (tookAt st ks i)
def ordT (d : Int) (n t : Nat) : Nat := if d = 1 then t else n - 1 - t
def parS (d : Int) (st ks : List Int) : Nat → Int
  | 0 => sumS st
  | t + 1 => parS d st ks t + chgAt st ks (ordT d ks.length t)
def thinTo (d : Int) (st ks : List Int) (j : Nat) : Bool := (List.range j).all fun t => decide (parS d st ks (t + 1) ≤ 12)
def thinB (d : Int) (st ks : List Int) : Bool := thinTo d st ks ks.length
theorem thinTo_succ (d : Int) (st ks : List Int) (j : Nat) : thinTo d st ks (j + 1) = (thinTo d st ks j && decide (parS d st ks (j + 1) ≤ 12)) := by
  unfold thinTo; rw [List.range_succ, List.all_append]; simp
theorem thinTo_false {d : Int} {st ks : List Int} {j n : Nat} (hj : j < n) (h : ¬ parS d st ks (j + 1) ≤ 12) : thinTo d st ks n = false := by
  unfold thinTo
  rw [Bool.eq_false_iff]
  intro hh
  have := List.all_eq_true.1 hh j (by simpa using hj)
  exact h (of_decide_eq_true this)
/-- what stands where a row fits its stacks -/
structure Fits (st ks : List Int) : Prop where
  s : stkB st = true
  k : stB ks = true
  sum : sumF takenK ks = st.length
theorem saC_fits {st ks : List Int} (h : saC st ks = 0) : Fits st ks ∧ saL st ks = aftTo st ks ks.length := by
  have hh := h
  unfold saC at h
  cases hb : (stkB st && stB ks) with
  | false => rw [hb] at h; simp at h
  | true =>
    by_cases hs : sumF takenK ks = st.length
    · rw [Bool.and_eq_true] at hb
      refine ⟨⟨hb.1, hb.2, hs⟩, ?_⟩
      unfold saL
      rw [hh, if_pos rfl]
    · rw [hb, if_pos rfl, if_neg hs] at h; omega
theorem Fits.pos {st ks : List Int} (h : Fits st ks) {i : Nat} (hi : i < ks.length) : posS ks i + (takenK ks[i]).toNat ≤ st.length := by
  have h1 := posS_succ hi
  have h2 := posS_le ks (i + 1)
  have := h.sum
  omega
theorem Fits.took {st ks : List Int} (h : Fits st ks) (i : Nat) : (tookAt st ks i).length ≤ 4 ∧ ∀ x ∈ tookAt st ks i, 0 ≤ x ∧ x ≤ 1000 := by
  refine ⟨?_, fun x hx => ?_⟩
  · unfold tookAt
    rw [List.length_take]
    have := takenK_bd (ix ks i)
    omega
  · have := stkB_bd h.s x (List.mem_of_mem_drop (List.mem_of_mem_take hx)); omega
theorem sumS_le5 : ∀ {xs : List Int}, (∀ x ∈ xs, 0 ≤ x ∧ x ≤ 5) → 0 ≤ sumS xs ∧ sumS xs ≤ 5 * xs.length
  | [], _ => by simp [sumS, sumF]
  | x :: xs, h => by
    have h1 := sumS_le5 (xs := xs) fun y hy => h y (by simp [hy])
    have h2 := h x (by simp)
    simp only [sumS, sumF, id_eq, List.length_cons] at *
    omega
theorem Fits.step {st ks : List Int} (h : Fits st ks) {i : Nat} (hi : i < ks.length) : (stepAt st ks i).length ≤ 4 ∧ ∀ x ∈ stepAt st ks i, 1 ≤ x ∧ x ≤ 5 :=
  ⟨stepS_length _ _ _, fun x hx => aftTo_bd h.s h.sum h.k (i + 1) (by omega) x (by rw [aftTo_succ]; exact List.mem_append_right _ hx)⟩
theorem Fits.chg {st ks : List Int} (h : Fits st ks) {i : Nat} (hi : i < ks.length) : -20 ≤ chgAt st ks i ∧ chgAt st ks i ≤ 20 := by
  have h1 := h.step hi
  have h2 := h.took i
  have a := sumS_le5 (xs := stepAt st ks i) fun x hx => by have := h1.2 x hx; omega
  have b := sumS_le5 (xs := tookAt st ks i) fun x hx => by have := stkB_bd h.s x (List.mem_of_mem_drop (List.mem_of_mem_take hx)); omega
  unfold chgAt
  omega
theorem Fits.par {st ks : List Int} (h : Fits st ks) (d : Int) : ∀ t, t ≤ ks.length → -20 * (t : Int) ≤ parS d st ks t ∧ parS d st ks t ≤ 40 + 20 * t
  | 0, _ => by
    have b := sumS_le5 (xs := st) fun x hx => by have := stkB_bd h.s x hx; omega
    have := stkB_len h.s
    simp only [parS]
    omega
  | t + 1, ht => by
    have ih := h.par d t (by omega)
    have hc := h.chg (i := ordT d ks.length t) (by unfold ordT; split <;> omega)
    simp only [parS]
    omega
end Go.Proofs.Ytnjfhpgmogopnaa
set_option linter.unusedSimpArgs false
set_option linter.unusedVariables false
set_option maxRecDepth 100000
set_option maxHeartbeats 400000
namespace Go.Proofs.Ytnjfhpgmogopnaa
open Go.ChangeShapes Go.WideShapes Go.ChangeAt Go.RowKit
def chgs (st ks : List Int) (j : Nat) : List Int := (List.range j).map (chgAt st ks)
theorem chgs_succ (st ks : List Int) (j : Nat) : chgs st ks (j + 1) = chgs st ks j ++ [chgAt st ks j] := by simp [chgs, List.range_succ]
theorem chgs_length (st ks : List Int) (j : Nat) : (chgs st ks j).length = j := by simp [chgs]
theorem chgs_get (st ks : List Int) {j i : Nat} (h : i < j) : ix (chgs st ks j) i = chgAt st ks i := by
  unfold ix chgs
  rw [List.getD_eq_getElem?_getD, List.getElem?_map, List.getElem?_range h]
  rfl
theorem box3 (w : World) (a b c : Value) (t : TypeId) : (w.alloc (.cells #[a, b, c] t)).cell? ⟨w.heap.size, 0, none⟩ = some a ∧ (w.alloc (.cells #[a, b, c] t)).cell? ⟨w.heap.size, 1, none⟩ = some b ∧ (w.alloc (.cells #[a, b, c] t)).cell? ⟨w.heap.size, 2, none⟩ = some c := ⟨cell_new _ _ _ _, cell_new _ _ _ _, cell_new _ _ _ _⟩
/-- the three cells of a row's own box -/
def Bx (w : World) (g : Nat) (a b c : Value) : Prop := w.cell? ⟨g, 0, none⟩ = some a ∧ w.cell? ⟨g, 1, none⟩ = some b ∧ w.cell? ⟨g, 2, none⟩ = some c
theorem Bx.keep {S : Nat → Prop} {w w' : World} {g : Nat} {a b c : Value} (h : Bx w g a b c) (k : Chg S w w') (hn : ¬ S g) : Bx w' g a b c := ⟨Chg.cell k h.1 hn, Chg.cell k h.2.1 hn, Chg.cell k h.2.2 hn⟩
theorem Bx.up {w w' : World} {g : Nat} {a b c : Value} (h : Bx w g a b c) (k : Up w w') : Bx w' g a b c := h.keep k id
theorem keepsLimit_any (w : World) (S S2 : Nat → Prop) (u : Value) (d cr0 : Int) (A2 : Option Addr) (c2 : Nat) (st ks : List Int) (h2 : Ints w S2 (.slice A2 ks.length c2) ks) (h : Ints w S u st) (hf : Fits st ks) (hd : d = 1 ∨ d = -1) (hdc : I64 cr0) :
    Calls Try.prog 212 #[.agg #[.int .i64 d, .int .i64 cr0, .slice A2 ks.length c2], u] w fun e w' => e = .returned (.bool (thinB d st ks)) ∧ Up w w' := by
  obtain ⟨A, c, rfl, hlc, hcm, -⟩ := h.shape
  obtain ⟨A9, c9, he9, hlc2, hcm2, -⟩ := h2.shape
  obtain ⟨rfl, rfl⟩ : A2 = A9 ∧ c2 = c9 := by simpa using he9
  have U0 := (Chg.refl Nowhere w).alloc (.cells #[.int .i64 d, .int .i64 cr0, .slice A2 ks.length c2] 87)
  have H := Lib.hid ((h.mono (T := fun b => b < w.heap.size) fun _ h _ => h).up U0)
  have H2 := Lib.hid ((h2.mono (T := fun b => b < w.heap.size) fun _ h _ => h).up U0)
  have hks := stB_len hf.k
  have hst := stkB_len hf.s
  have HF := Lib.hid hf
  have Hw2 := Lib.hid (h2.mono (T := fun b => b < w.heap.size) fun _ h _ => h)
  have HDC := Lib.hid hdc
  have HDI : Hid (I64 d) := Lib.hid (by rcases hd with rfl | rfl <;> (unfold I64; omega))
  have B0 := Lib.hid (show Bx (w.alloc (.cells #[.int .i64 d, .int .i64 cr0, .slice A2 ks.length c2] 87)) w.heap.size _ _ _ from box3 w _ _ _ _)
  have hz0 : (w.alloc (.cells #[.int .i64 d, .int .i64 cr0, .slice A2 ks.length c2] 87)).heap.size = w.heap.size + 1 := by simp
  have HZ0 := Lib.hid hz0
  have b2 := B0.out.2.2
  have HM := Lib.hid (show OwnI ((w.alloc (.cells #[.int .i64 d, .int .i64 cr0, .slice A2 ks.length c2] 87)).alloc (.cells #[] 2)) (w.heap.size + 1) (.slice (some ⟨w.heap.size + 1, 0, none⟩) 0 0) [] by have h := OwnI.made (w.alloc (.cells #[.int .i64 d, .int .i64 cr0, .slice A2 ks.length c2] 87)) (w.heap.size + 1) (Nat.le_of_eq hz0.symm); rw [hz0] at h; exact h)
  have b2' := Chg.cell ((Chg.refl Nowhere (w.alloc (.cells #[.int .i64 d, .int .i64 cr0, .slice A2 ks.length c2] 87))).alloc (.cells #[] 2)) b2 id
  clear h h2 hf he9 hz0 U0 hdc
  go_enter Try.func212, Try.ntmps212
  go_wp2_with fail
  refine (sumOfS_any _ _ _ st H.out (by omega) (fun x hx => by have := stkB_bd HF.out.s x hx; omega)).mono ?_
  rintro e w' ⟨rfl, rfl⟩
  go_wp2
  clear b2 b2'
  go_loopw [6, 7, 22] (fun q r i wr => ∃ (j : Nat), j ≤ ks.length ∧ i = .int .i64 j ∧ Hid (OwnI wr (w.heap.size + 1) q (chgs st ks j)) ∧ Hid (Ints wr (fun b => b < w.heap.size) r (st.drop (posS ks j))) ∧ Hid (Bx wr w.heap.size (.int .i64 d) (.int .i64 cr0) (.slice A2 ks.length c2)) ∧ Hid (Up w wr)) (fun _ _ i _ => ks.length - (intOf i).toNat)
  case atStart =>
    refine ⟨0, by omega, rfl, HM.out, H.out.up ((Chg.refl _ _).alloc _), B0.out.up ((Chg.refl _ _).alloc _), ((Chg.refl _ _).alloc _).alloc _⟩
  case round =>
    obtain ⟨j, hj, rfl, hq, hr, hb, hu⟩ := hrel
    have HZ := Lib.hid hu.out.size
    by_cases hlt : j < ks.length
    · obtain ⟨b, o, rfl, -, hc⟩ := (Hw2.out.up hu.out).ix hlt
      have f1 := hc j hlt
      rw [ix_eq hlt] at f1
      have HKJ := Lib.hid (stB_kind HF.out.k _ (List.getElem_mem hlt))
      have HPS := Lib.hid (posS_succ hlt)
      have HPT := Lib.hid (HF.out.pos hlt)
      obtain ⟨kd, HKD⟩ : ∃ kd, Hid (ks[j] = kd) := ⟨_, Lib.hid rfl⟩
      rw [HKD.out] at f1 HKJ HPS HPT
      obtain ⟨tk, HTK⟩ : ∃ tk : Nat, Hid (takenK kd = tk) := ⟨(takenK kd).toNat, Lib.hid (by have := takenK_bd kd; omega)⟩
      rw [HTK.out] at HPS HPT
      clear hc
      obtain ⟨Ar, cr, rfl, hlr, hcr, har⟩ := hr.out.shape
      have hpl : posS ks j + tk ≤ st.length := by have := HPT.out; simpa using this
      have hdl : (st.drop (posS ks j)).length = st.length - posS ks j := by simp
      have htc : tk ≤ cr := by omega
      have htc2 : (tk : Int) ≤ cr := by omega
      have htl : (tk : Int) ≤ (st.drop (posS ks j)).length := by omega
      have HTKA : Hid (tookAt st ks j = (st.drop (posS ks j)).take tk) := Lib.hid (by unfold tookAt; rw [ix_eq hlt, HKD.out, HTK.out]; simp)
      have HSTL := Lib.hid (stepS_take (st := st) (p := posS ks j) HKJ.out HTK.out.symm hpl)
      have HR := Lib.hid (show Ints wr (fun b => b < w.heap.size) (.slice Ar tk cr) (tookAt st ks j) by rw [HTKA.out]; exact hr.out.took (by omega) rfl)
      have HTL : Hid (((tookAt st ks j).length : Int) = takenK kd) := Lib.hid (by rw [HTKA.out, List.length_take, hdl, HTK.out]; omega)
      have HTLN : Hid ((tookAt st ks j).length = tk) := Lib.hid (by rw [HTKA.out, List.length_take, hdl]; omega)
      have HSA : Hid (stepAt st ks j = stepS kd (ix (tookAt st ks j) 0) (ix (tookAt st ks j) 1)) := Lib.hid (by rw [HTKA.out, HSTL.out.1]; unfold stepAt; rw [ix_eq hlt, HKD.out])
      go_wp2_with fail
      refine (ColumnsTaken_any _ _).mono ?_
      rintro e w' ⟨rfl, rfl⟩
      rw [takenOf_ok HKJ.out, HTK.out]
      go_wp2_with fail
      refine (madeStacks_any _ _ _ (tookAt st ks j) HR.out kd HKJ.out HTL.out (fun x hx => stkB_bd HF.out.s x (List.mem_of_mem_drop (List.mem_of_mem_take hx)))).mono ?_
      rintro e w2 ⟨v2, rfl, k2, g2⟩
      rw [← HSA.out] at k2
      obtain ⟨A3, c3, rfl, hl3, hc3, -⟩ := k2.shape
      have K2 := Lib.hid k2
      have G2 := Lib.hid g2
      have hz2 := g2.size
      clear k2 g2
      have HBX : Hid (w.heap.size + 1 ≤ w2.heap.size) := Lib.hid (by have h := World.block_lt_of_cell? _ _ hb.out.1; have h : w.heap.size < wr.heap.size := h; omega)
      have HQ2 := Lib.hid (hq.out.up G2.out)
      have HR2 := Lib.hid (hr.out.up G2.out)
      have HT2 := Lib.hid (HR.out.up G2.out)
      have HB2 := Lib.hid (hb.out.up G2.out)
      have hcg := HF.out.chg hlt
      have hs1 := HF.out.step hlt
      have hs2 := HF.out.took j
      have y1 : IntKind.i64.wrap (sumS (stepAt st ks j) - sumS (tookAt st ks j)) = sumS (stepAt st ks j) - sumS (tookAt st ks j) := IntWalk.i64_in _ (by unfold chgAt at hcg; omega)
      have HI : Hid (I64 (sumS (stepAt st ks j) - sumS (tookAt st ks j))) := Lib.hid (by unfold chgAt at hcg; unfold I64; omega)
      have HLN : Hid ((chgs st ks j).length + [sumS (stepAt st ks j) - sumS (tookAt st ks j)].length ≤ 1099511627776) := Lib.hid (by rw [chgs_length]; simp; omega)
      have HS1 := Lib.hid (show (stepAt st ks j).length ≤ 100000 ∧ ∀ x ∈ stepAt st ks j, 0 ≤ x ∧ x ≤ 1000 from ⟨by omega, fun x hx => by have := hs1.2 x hx; omega⟩)
      have HS2 := Lib.hid (show (tookAt st ks j).length ≤ 100000 ∧ ∀ x ∈ tookAt st ks j, 0 ≤ x ∧ x ≤ 1000 from ⟨by omega, hs2.2⟩)
      have HCH : Hid (chgAt st ks j = sumS (stepAt st ks j) - sumS (tookAt st ks j)) := Lib.hid rfl
      clear hcg hs1 hs2 HSA HTKA HSTL HTL
      generalize stepAt st ks j = MS at *
      generalize tookAt st ks j = TS at *
      go_wp2
      go_region_law (first | (go_simp; go_at_call 254; with_reducible refine (sumOfS_any _ _ (.slice A3 MS.length c3) MS (K2.out.up (by repeat (first | exact Chg.refl _ _ | apply Chg.drew | apply Chg.drewN | refine Chg.alloc ?_ _))) HS1.out.1 HS1.out.2).mono ?_; rintro e w' ⟨rfl, rfl⟩) | (go_simp; go_at_call 254; with_reducible refine (sumOfS_any _ _ (.slice Ar tk cr) TS (HT2.out.up (by repeat (first | exact Chg.refl _ _ | apply Chg.drew | apply Chg.drewN | refine Chg.alloc ?_ _))) HS2.out.1 HS2.out.2).mono ?_; rintro e w' ⟨rfl, rfl⟩) | (refine step_appI (by rfl) (.tmp 36) (.tmp 44) (by rfl) (w.heap.size + 1) _ (chgs st ks j) (by simp [Act.eval, Act.put]) ((HQ2.out.up (by repeat (first | exact Chg.refl _ _ | apply Chg.drew | apply Chg.drewN | refine Chg.alloc ?_ _))).alloc _) _ _ [sumS MS - sumS TS] (by simp [Act.eval, Act.put]) (lit1 _ _ HI.out 0 (Nat.zero_le _)) HLN.out ?_ ?_; (have h9 := HBX.out; first | omega | (simp; omega)); intro v' w3 ho1 _ _ hg1; have HO := Lib.hid ho1; have HG := Lib.hid hg1; clear ho1 hg1))
      simp [Act.put, goInt]
      have HR3 := Lib.hid ((HR2.out.up (by repeat (first | exact Chg.refl _ _ | apply Chg.drew | apply Chg.drewN | refine Chg.alloc ?_ _))).keep HG.out (fun b hb h1 h9 => by have h1 : b < w.heap.size := h1; have h9 : w.heap.size + 1 ≤ b := h9; omega))
      have HB3 := Lib.hid ((HB2.out.up (by repeat (first | exact Chg.refl _ _ | apply Chg.drew | apply Chg.drewN | refine Chg.alloc ?_ _))).keep HG.out (fun h9 => by have h9 : w.heap.size + 1 ≤ w.heap.size := h9; omega))
      have HU3 := Lib.hid (Chg.new (Chg.trans (Chg.trans hu.out G2.out) (by repeat (first | exact Chg.refl _ _ | apply Chg.drew | apply Chg.drewN | refine Chg.alloc ?_ _))) HG.out (fun i hi h9 => by have h9 : w.heap.size + 1 ≤ i := h9; omega) : Up w w3)
      go_wp2
      go_roundw
      case rel =>
        refine ⟨j + 1, by omega, by go_num, by rw [chgs_succ, HCH.out]; exact HO.out, ?_, HB3.out, HU3.out⟩
        have e9 : posS ks (j + 1) = posS ks j + tk := by rw [HPS.out]; simp
        rw [e9, ← List.drop_drop]
        refine HR3.out.dropt (by omega) (by omega) rfl (fun b o e hlt9 => ?_) (fun e => ?_)
        · subst e
          rw [if_neg (by omega)]
          unfold Addr.add
          by_cases h0 : tk = 0 <;> simp [h0]
        · by_cases h0 : cr = tk
          · omega
          · rw [if_neg h0] at e
            have : Ar = none := by cases Ar with | none => rfl | some a => simp at e
            have := har this
            omega
      case measure => first | (simp [intOf]; done) | (simp [intOf]; omega)
    · obtain rfl : j = ks.length := by omega
      have e0 := hb.out.1
      have e1 := hb.out.2.1
      have e2 := hb.out.2.2
      have hwz : w.heap.size < wr.heap.size := World.block_lt_of_cell? _ _ e0
      have HWZ := Lib.hid hwz
      go_wp2_with fail
      refine (order_any _ (fun b => b < w.heap.size) _ ⟨d, cr0, ks⟩ ⟨_, rfl, Hw2.out.up hu.out, HDI.out, HDC.out⟩ hd hks).mono ?_
      rintro e w2 ⟨v2, rfl, k2, g2⟩
      have HO2 := Lib.hid (show Ints w2 _ v2 (ordM d ks.length) from k2)
      have HU2 := Lib.hid (Chg.trans hu.out g2)
      have HC2 := Lib.hid (hq.out.ints.up g2)
      obtain ⟨A4, c4, rfl, hl4, hc4, -⟩ := k2.shape
      obtain ⟨A5, c5, rfl, hl5, hc5, -⟩ := hq.out.ints.shape
      have hol := ordM_length d ks.length
      clear k2 g2 e0 e1 e2
      go_wp2
      go_loop [5, 14, 53] (fun s _ i => ∃ t : Nat, t ≤ ks.length ∧ i = .int .i64 t ∧ s = .int .i64 (parS d st ks t) ∧ Hid (thinTo d st ks t = true)) (fun _ _ i => ks.length - (intOf i).toNat)
      case atStart => exact ⟨0, by omega, rfl, rfl, rfl⟩
      case round =>
        obtain ⟨t, ht, rfl, rfl, hth⟩ := hrel
        by_cases hlt : t < ks.length
        · obtain ⟨oi, HOI⟩ : ∃ oi : Nat, Hid (ordT d ks.length t = oi) := ⟨_, Lib.hid rfl⟩
          have hoi : oi < ks.length := by rw [← HOI.out]; unfold ordT; split <;> omega
          obtain ⟨b4, o4, rfl, -, hc4'⟩ := HO2.out.ix (show t < (ordM d ks.length).length by omega)
          have f1 := hc4' t (by omega)
          have e1 : ix (ordM d ks.length) t = (oi : Int) := by
            rw [ix_eq (by omega), ordM_get, ← HOI.out]
            unfold ordT
            split <;> omega
          rw [e1] at f1
          have hcl := chgs_length st ks ks.length
          obtain ⟨b5, o5, rfl, -, hc5'⟩ := HC2.out.ix (show oi < (chgs st ks ks.length).length by omega)
          have f2 := hc5' oi (by omega)
          rw [chgs_get st ks hoi] at f2
          have hp1 := HF.out.par d t (by omega)
          have hp2 := HF.out.chg hoi
          have HPT : Hid (parS d st ks (t + 1) = parS d st ks t + chgAt st ks oi) := Lib.hid (by simp only [parS]; rw [HOI.out])
          have y1 : IntKind.i64.wrap (parS d st ks t + chgAt st ks oi) = parS d st ks (t + 1) := by rw [HPT.out]; exact IntWalk.i64_in _ (by omega)
          generalize chgAt st ks oi = cg at *
          have hl1 : (t : Int) < (ordM d ks.length).length := by omega
          have hl2 : (oi : Int) < (chgs st ks ks.length).length := by omega
          clear hc4' hc5' e1
          by_cases h12 : parS d st ks (t + 1) ≤ 12
          · have HT2 : Hid (thinTo d st ks (t + 1) = true) := Lib.hid (by rw [thinTo_succ, hth.out, decide_eq_true h12]; rfl)
            have t12 : decide ((12 : Int) < parS d st ks (t + 1)) = false := decide_eq_false (by omega)
            clear h12
            go_wp2
            go_round
            case rel => exact ⟨t + 1, by omega, by go_num, by first | rfl | rw [y1], HT2.out⟩
            case measure => first | (simp [intOf]; done) | (simp [intOf]; omega)
          · have HV := Lib.hid (thinTo_false hlt h12)
            have t12 : decide ((12 : Int) < parS d st ks (t + 1)) = true := decide_eq_true (by omega)
            clear h12
            go_wp2
            go_ret
            exact ⟨ret_bool (by first | exact HV.out.symm | (unfold thinB; exact HV.out.symm)), HU2.out⟩
        · obtain rfl : t = ks.length := by omega
          go_wp2
          go_ret
          exact ⟨ret_bool (by first | exact hth.out.symm | (unfold thinB; exact hth.out.symm)), HU2.out⟩
end Go.Proofs.Ytnjfhpgmogopnaa
set_option linter.unusedSimpArgs false
set_option linter.unusedVariables false
set_option maxRecDepth 100000
set_option maxHeartbeats 1000000
namespace Go.Proofs.Ytnjfhpgmogopnaa
open Go.ChangeShapes Go.WideShapes Go.ChangeAt Go.RowKit
theorem sumS_take (xs : List Int) {k : Nat} (h : k < xs.length) : sumS (xs.take (k + 1)) = sumS (xs.take k) + ix xs k := by
  rw [List.take_succ_eq_append_getElem h, sumS_append, ix_eq h]; simp [sumS, sumF]
theorem aftTo_pre (st ks : List Int) (m : Nat) : ∀ n, m ≤ n → ∃ Z, aftTo st ks n = aftTo st ks m ++ Z := by
  intro n
  induction n with
  | zero =>
    intro h
    obtain rfl : m = 0 := by omega
    exact ⟨[], by simp⟩
  | succ n ih =>
    intro h
    by_cases e : m = n + 1
    · subst e; exact ⟨[], by simp⟩
    · obtain ⟨Z, hZ⟩ := ih (by omega)
      exact ⟨Z ++ stepAt st ks n, by rw [aftTo_succ, hZ, List.append_assoc]⟩
theorem aft_at {st ks : List Int} {i k : Nat} (hi : i < ks.length) (hk : k < (stepAt st ks i).length) : ix (aftTo st ks ks.length) (posM ks i + k) = ix (stepAt st ks i) k := by
  obtain ⟨Z, hZ⟩ := aftTo_pre st ks (i + 1) ks.length (by omega)
  rw [hZ, aftTo_succ]
  have hl := aftTo_length (st := st) (ks := ks) (j := i) (by omega)
  unfold ix
  rw [List.getD_eq_getElem?_getD, List.getD_eq_getElem?_getD, List.append_assoc, List.getElem?_append_right (by omega), hl, Nat.add_sub_cancel_left, List.getElem?_append_left hk]
theorem sumS_part {xs : List Int} (k : Nat) (h : ∀ x ∈ xs, 0 ≤ x ∧ x ≤ 5) : 0 ≤ sumS (xs.take k) ∧ sumS (xs.take k) ≤ 5 * xs.length := by
  have := sumS_le5 (xs := xs.take k) fun x hx => h x (List.mem_of_mem_take hx)
  rw [List.length_take] at this
  omega
theorem posM_le (ks : List Int) {i n : Nat} (h : i ≤ n) (hn : n ≤ ks.length) : posM ks i ≤ posM ks n := by
  induction n with
  | zero =>
    obtain rfl : i = 0 := by omega
    exact Nat.le_refl _
  | succ n ih =>
    by_cases e : i = n + 1
    · subst e; exact Nat.le_refl _
    · have := ih (by omega) (by omega)
      rw [posM_succ (by omega)]
      omega
theorem l15ThinR_any (w : World) (S S2 S3 : Nat → Prop) (v u : Value) (st : List Int) (b o : Nat) (cc : Int) (ks : List Int) (h : Ints w S v st) (ha : Ints w S3 u (aftTo st ks ks.length)) (hr : RowAt w S2 b o ⟨1, cc, ks⟩) (hf : Fits st ks) (h8 : (aftTo st ks ks.length).length ≤ 8) :
    Calls Try.prog 250 #[v, u, .pointer (some ⟨b, o, none⟩)] w fun e w' => e = .returned (.bool (thinB 1 st ks)) ∧ Up w w' := by
  obtain ⟨A, c, rfl, hlc, hcm, -⟩ := h.shape
  obtain ⟨A2, c2, rfl, hlc2, hcm2, -⟩ := ha.shape
  have H := Lib.hid h
  have H2 := Lib.hid ha
  have HR := Lib.hid hr
  have HF := Lib.hid hf
  have hks := stB_len hf.k
  have hst := stkB_len hf.s
  obtain ⟨A3, c3, r0, r1, r2, hri, hrc, hrm, -, hrb⟩ := hr
  dsimp only at r0 r1 r2 hri hrc
  have HRI := Lib.hid hri
  have HR0 := Lib.hid r0
  have HR2 := Lib.hid r2
  have HAL := Lib.hid (aftTo_length (st := st) (ks := ks) (Nat.le_refl _))
  have HPN : Hid (posS ks ks.length = st.length) := Lib.hid (by have h1 := posS_int ks ks.length; rw [List.take_length, hf.sum] at h1; omega)
  clear h ha hf hri r1
  go_enter Try.func250, Try.ntmps250
  go_wp2
  go_loop [7, 8] (fun s i => ∃ t : Nat, t ≤ st.length ∧ i = .int .i64 t ∧ s = .int .i64 (sumS (st.take t))) (fun _ i => st.length - (intOf i).toNat)
  case atStart => exact ⟨0, by omega, rfl, rfl⟩
  case round =>
    obtain ⟨t, ht, rfl, rfl⟩ := hrel
    by_cases hlt : t < st.length
    · obtain ⟨b4, o4, rfl, -, hc4⟩ := H.out.ix hlt
      have f1 := hc4 t hlt
      have HS := Lib.hid (sumS_take st hlt)
      have hb1 := sumS_part (xs := st) t (fun x hx => by have := stkB_bd HF.out.s x hx; omega)
      have hb2 : 1 ≤ ix st t ∧ ix st t ≤ 4 := by rw [ix_eq hlt]; exact stkB_bd HF.out.s _ (List.getElem_mem hlt)
      have y1 : IntKind.i64.wrap (sumS (st.take t) + ix st t) = sumS (st.take t) + ix st t := IntWalk.i64_in _ (by omega)
      clear hc4
      go_wp2
      go_round
      case rel => exact ⟨t + 1, by omega, by go_num, by rw [HS.out]⟩
      case measure => first | (simp [intOf]; done) | (simp [intOf]; omega)
    · obtain rfl : t = st.length := by omega
      rw [List.take_length]
      go_wp2
      go_loopw [7, 10, 11, 12] (fun s f g i wr => ∃ t : Nat, t ≤ ks.length ∧ i = .int .i64 t ∧ f = .int .i64 (posS ks t) ∧ g = .int .i64 (posM ks t) ∧ s = .int .i64 (parS 1 st ks t) ∧ Hid (thinTo 1 st ks t = true) ∧ Hid (Up w wr)) (fun _ _ _ i _ => ks.length - (intOf i).toNat)
      case atStart => exact ⟨0, by omega, rfl, by first | rfl | (rw [Nat.sub_zero, HPN.out]), by first | rfl | (rw [Nat.sub_zero, ← HAL.out]), rfl, rfl, Chg.refl _ _⟩
      case round =>
        obtain ⟨t, ht, rfl, rfl, rfl, rfl, hth, hu⟩ := hrel
        have q0 := Chg.cell hu.out HR0.out id
        have q2 := Chg.cell hu.out HR2.out id
        by_cases hlt : t < ks.length
        rotate_left
        · obtain rfl : t = ks.length := by omega
          go_wp2
          go_ret
          exact ⟨ret_bool (by first | exact hth.out.symm | (unfold thinB; exact hth.out.symm)), hu.out⟩
        have HTT : Hid True := Lib.hid trivial
        obtain ⟨ki, HKI⟩ : ∃ ki : Nat, Hid (ordT 1 ks.length t = ki) := ⟨_, Lib.hid rfl⟩
        have hki : t = ki := by have h := HKI.out; unfold ordT at h; simp at h; omega
        have hkl : ki < ks.length := by omega
        obtain ⟨b3, o3, rfl, -, hc3⟩ := (HRI.out.up hu.out).ix hkl
        have f3 := hc3 ki hkl
        rw [ix_eq hkl] at f3
        have HKJ := Lib.hid (stB_kind HF.out.k _ (List.getElem_mem hkl))
        have HPS := Lib.hid (posS_succ hkl)
        have HPM := Lib.hid (posM_succ hkl)
        have HPT := Lib.hid (HF.out.pos hkl)
        have HLS : Hid ((stepAt st ks ki).length = (madeK ks[ki]).toNat) := Lib.hid (by unfold stepAt; rw [stepS_len, ix_eq hkl])
        have HLT : Hid ((tookAt st ks ki).length = (takenK ks[ki]).toNat) := Lib.hid (by unfold tookAt; rw [List.length_take, List.length_drop, ix_eq hkl]; have := HPT.out; omega)
        have HPL := Lib.hid (posM_le ks (show ki + 1 ≤ ks.length by omega) (Nat.le_refl _))
        obtain ⟨kd, HKD⟩ : ∃ kd, Hid (ks[ki] = kd) := ⟨_, Lib.hid rfl⟩
        rw [HKD.out] at f3 HKJ HPS HPM HPT HLS HLT
        obtain ⟨tk, HTK⟩ : ∃ tk : Nat, Hid (takenK kd = tk) := ⟨(takenK kd).toNat, Lib.hid (by have := takenK_bd kd; omega)⟩
        obtain ⟨mk, HMK⟩ : ∃ mk : Nat, Hid (madeK kd = mk) := ⟨(madeK kd).toNat, Lib.hid (by have := madeK_bd kd; omega)⟩
        have htk4 : tk ≤ 4 := by have h1 := HTK.out; have := takenK_bd kd; omega
        have hmk4 : mk ≤ 4 := by have h1 := HMK.out; have := madeK_bd kd; omega
        rw [HTK.out, Int.toNat_natCast] at HPS HPT HLT
        rw [HMK.out, Int.toNat_natCast] at HPM HLS
        have HTKO : Hid (takenOf kd = tk) := Lib.hid ((takenOf_ok HKJ.out).trans HTK.out)
        have HMKO : Hid (madeOf kd = mk) := Lib.hid ((madeOf_ok HKJ.out).trans HMK.out)
        have hp1 := HF.out.par 1 t (by omega)
        have hp2 := HF.out.par 1 (t + 1) (by omega)
        have HPAR : Hid (parS 1 st ks (t + 1) = parS 1 st ks t - sumS (tookAt st ks ki) + sumS (stepAt st ks ki)) := Lib.hid (by simp only [parS]; rw [HKI.out]; unfold chgAt; omega)
        have hs1 := fun k => sumS_part (xs := tookAt st ks ki) k (fun x hx => by have := (HF.out.took ki).2 x hx; have := stkB_bd HF.out.s x (List.mem_of_mem_drop (List.mem_of_mem_take hx)); omega)
        have HS1 := Lib.hid hs1
        have hs2 := fun k => sumS_part (xs := stepAt st ks ki) k (fun x hx => by have := (HF.out.step hkl).2 x hx; omega)
        have HS2 := Lib.hid hs2
        clear hs1 hs2 hc3
        subst hki
        go_wp2_with fail
        go_loopw [7, 14] (fun s k wq => ∃ m : Nat, m ≤ tk ∧ k = .int .i64 m ∧ s = .int .i64 (parS 1 st ks t - sumS ((tookAt st ks t).take m)) ∧ Hid (Up w wq)) (fun _ k _ => tk - (intOf k).toNat)
        case atStart => exact ⟨0, by omega, rfl, by simp [sumS, sumF], hu.out⟩
        case round =>
          obtain ⟨m, hm, rfl, rfl, hu2⟩ := hrel
          go_wp2_with fail
          refine (sColumnsTaken_any _ _).mono ?_
          rintro e w4 ⟨rfl, g4⟩
          rw [HTKO.out]
          have HU4 := Lib.hid (Chg.trans hu2.out g4)
          clear g4
          by_cases hlt2 : m < tk
          · have hi9 : posS ks t + m < st.length := by have := HPT.out; omega
            obtain ⟨b7, o7, rfl, -, hc7⟩ := (H.out.up HU4.out).ix hi9
            have f7 := hc7 (posS ks t + m) hi9
            have HX : Hid (sumS ((tookAt st ks t).take (m + 1)) = sumS ((tookAt st ks t).take m) + ix st (posS ks t + m)) := Lib.hid (by
              rw [sumS_take _ (by rw [HLT.out]; exact hlt2)]
              congr 1
              unfold tookAt
              exact ix_drop_take (by rw [ix_eq hkl, HKD.out, HTK.out]; simpa using hlt2) hi9)
            have hb1 := HS1.out m
            have hb3 := HS1.out (m + 1)
            have hb4 : (tookAt st ks t).length = tk := HLT.out
            have hb2 : 1 ≤ ix st (posS ks t + m) ∧ ix st (posS ks t + m) ≤ 4 := by rw [ix_eq hi9]; exact stkB_bd HF.out.s _ (List.getElem_mem hi9)
            have y1 : IntKind.i64.wrap ((posS ks t : Int) + m) = ((posS ks t + m : Nat) : Int) := (IntWalk.i64_in _ (by omega)).trans (by omega)
            have y2 : IntKind.i64.wrap (parS 1 st ks t - sumS ((tookAt st ks t).take m) - ix st (posS ks t + m)) = parS 1 st ks t - sumS ((tookAt st ks t).take (m + 1)) := by rw [HX.out]; exact (IntWalk.i64_in _ (by omega)).trans (by omega)
            have hi8 : (posS ks t : Int) + m < st.length := by omega
            have hi7 : ((posS ks t : Int) + m).toNat = posS ks t + m := by omega
            have hi6 : 0 ≤ (posS ks t : Int) + m := by omega
            have y1' : IntKind.i64.wrap ((posS ks t : Int) + m) = (posS ks t : Int) + m := IntWalk.i64_in _ (by omega)
            have y3 : IntKind.i64.wrap ((m : Int) + 1) = ((m + 1 : Nat) : Int) := (IntWalk.i64_in _ (by omega)).trans (by omega)
            have hm9 : (m : Int) < tk := by omega
            clear hc7 hb1 hb3 hb4 hb2
            go_wp2
            go_roundw
            case rel => exact ⟨m + 1, by omega, by first | rfl | go_num, by first | rfl | rw [y2], HU4.out⟩
            case measure => first | (simp [intOf]; done) | (simp [intOf]; omega)
          · obtain rfl : m = tk := by omega
            have e7 : (tookAt st ks t).take m = tookAt st ks t := List.take_of_length_le (by rw [HLT.out]; exact Nat.le_refl _)
            rw [e7]
            go_wp2
            go_loopw [7, 15] (fun s k wq => ∃ n : Nat, n ≤ mk ∧ k = .int .i64 n ∧ s = .int .i64 (parS 1 st ks t - sumS (tookAt st ks t) + sumS ((stepAt st ks t).take n)) ∧ Hid (Up w wq)) (fun _ k _ => mk - (intOf k).toNat)
            case atStart => exact ⟨0, by omega, rfl, by simp [sumS, sumF], HU4.out⟩
            case round =>
              obtain ⟨n, hn, rfl, rfl, hu3⟩ := hrel
              go_wp2_with fail
              refine (sColumnsMade_any _ _).mono ?_
              rintro e w5 ⟨rfl, g5⟩
              rw [HMKO.out]
              have HU5 := Lib.hid (Chg.trans hu3.out g5)
              clear g5
              by_cases hlt3 : n < mk
              · have hi9 : posM ks t + n < (aftTo st ks ks.length).length := by have := HPL.out; have := HAL.out; have := HPM.out; omega
                obtain ⟨b7, o7, rfl, -, hc7⟩ := (H2.out.up HU5.out).ix hi9
                have f7 := hc7 (posM ks t + n) hi9
                rw [aft_at hkl (by rw [HLS.out]; exact hlt3)] at f7
                have HX : Hid (sumS ((stepAt st ks t).take (n + 1)) = sumS ((stepAt st ks t).take n) + ix (stepAt st ks t) n) := Lib.hid (sumS_take _ (by rw [HLS.out]; exact hlt3))
                have hb1 := HS2.out n
                have hb3 := HS2.out (n + 1)
                have hb4 : (stepAt st ks t).length = mk := HLS.out
                have hb5 := HS1.out m
                have hb6 : (tookAt st ks t).length = m := HLT.out
                rw [List.take_of_length_le (Nat.le_of_eq hb6)] at hb5
                have y1 : IntKind.i64.wrap ((posM ks t : Int) + n) = ((posM ks t + n : Nat) : Int) := (IntWalk.i64_in _ (by omega)).trans (by omega)
                have y1' : IntKind.i64.wrap ((posM ks t : Int) + n) = (posM ks t : Int) + n := IntWalk.i64_in _ (by omega)
                have y2 : IntKind.i64.wrap (parS 1 st ks t - sumS (tookAt st ks t) + sumS ((stepAt st ks t).take n) + ix (stepAt st ks t) n) = parS 1 st ks t - sumS (tookAt st ks t) + sumS ((stepAt st ks t).take (n + 1)) := by rw [HX.out] at *; exact (IntWalk.i64_in _ (by omega)).trans (by omega)
                have hi8 : (posM ks t : Int) + n < (aftTo st ks ks.length).length := by omega
                have hi7 : ((posM ks t : Int) + n).toNat = posM ks t + n := by omega
                have hi6 : 0 ≤ (posM ks t : Int) + n := by omega
                have y3 : IntKind.i64.wrap ((n : Int) + 1) = ((n + 1 : Nat) : Int) := (IntWalk.i64_in _ (by omega)).trans (by omega)
                have hm9 : (n : Int) < mk := by omega
                clear hc7 hb1 hb3 hb4 hb5 hb6
                go_wp2
                go_roundw
                case rel => exact ⟨n + 1, by omega, by first | rfl | go_num, by first | rfl | rw [y2], HU5.out⟩
                case measure => first | (simp [intOf]; done) | (simp [intOf]; omega)
              · obtain rfl : n = mk := by omega
                have e6 : (stepAt st ks t).take n = stepAt st ks t := List.take_of_length_le (by rw [HLS.out]; exact Nat.le_refl _)
                rw [e6, ← HPAR.out]
                have p0 := Chg.cell HU5.out HR0.out id
                have hp9 := HPL.out
                have hal := HAL.out
                have hpm := HPM.out
                have hpt := HPT.out
                have hps := HPS.out
                have y3 : IntKind.i64.wrap ((t : Int) + 1) = ((t + 1 : Nat) : Int) := (IntWalk.i64_in _ (by omega)).trans (by omega)
                by_cases h12 : parS 1 st ks (t + 1) ≤ 12
                · have HT2 : Hid (thinTo 1 st ks (t + 1) = true) := Lib.hid (by rw [thinTo_succ, hth.out, decide_eq_true h12]; rfl)
                  have t12 : decide ((12 : Int) < parS 1 st ks (t + 1)) = false := decide_eq_false (by omega)
                  clear h12
                  have yA : IntKind.i64.wrap ((posS ks t : Int) + m) = ((posS ks (t + 1) : Nat) : Int) := (IntWalk.i64_in _ (by omega)).trans (by omega)
                  have yB : IntKind.i64.wrap ((posM ks t : Int) + n) = ((posM ks (t + 1) : Nat) : Int) := (IntWalk.i64_in _ (by omega)).trans (by omega)
                  clear hp9 hal hpm hpt hps
                  go_wp2_with fail
                  refine (sColumnsTaken_any _ _).mono ?_
                  rintro e w6 ⟨rfl, g6⟩
                  rw [HTKO.out]
                  have HU6 := Lib.hid (Chg.trans HU5.out g6)
                  clear g6
                  go_wp2_with fail
                  refine (sColumnsMade_any _ _).mono ?_
                  rintro e w7 ⟨rfl, g7⟩
                  rw [HMKO.out]
                  have HU7 := Lib.hid (Chg.trans HU6.out g7)
                  clear g7
                  go_wp2
                  go_roundw
                  case rel => exact ⟨t + 1, by omega, by first | rfl | go_num, by first | rfl | rw [yA], by first | rfl | rw [yB], rfl, HT2.out, HU7.out⟩
                  case measure => first | (simp [intOf]; done) | (simp [intOf]; omega)
                · have HV := Lib.hid (thinTo_false hlt h12)
                  have t12 : decide ((12 : Int) < parS 1 st ks (t + 1)) = true := decide_eq_true (by omega)
                  clear h12 hp9 hal hpm hpt hps
                  go_wp2
                  go_ret
                  exact ⟨ret_bool (by first | exact HV.out.symm | (unfold thinB; exact HV.out.symm)), HU5.out⟩
theorem l15ThinL_any (w : World) (S S2 S3 : Nat → Prop) (v u : Value) (st : List Int) (b o : Nat) (cc : Int) (ks : List Int) (h : Ints w S v st) (ha : Ints w S3 u (aftTo st ks ks.length)) (hr : RowAt w S2 b o ⟨-1, cc, ks⟩) (hf : Fits st ks) (h8 : (aftTo st ks ks.length).length ≤ 8) :
    Calls Try.prog 250 #[v, u, .pointer (some ⟨b, o, none⟩)] w fun e w' => e = .returned (.bool (thinB (-1) st ks)) ∧ Up w w' := by
  obtain ⟨A, c, rfl, hlc, hcm, -⟩ := h.shape
  obtain ⟨A2, c2, rfl, hlc2, hcm2, -⟩ := ha.shape
  have H := Lib.hid h
  have H2 := Lib.hid ha
  have HR := Lib.hid hr
  have HF := Lib.hid hf
  have hks := stB_len hf.k
  have hst := stkB_len hf.s
  obtain ⟨A3, c3, r0, r1, r2, hri, hrc, hrm, -, hrb⟩ := hr
  dsimp only at r0 r1 r2 hri hrc
  have HRI := Lib.hid hri
  have HR0 := Lib.hid r0
  have HR2 := Lib.hid r2
  have HAL := Lib.hid (aftTo_length (st := st) (ks := ks) (Nat.le_refl _))
  have HPN : Hid (posS ks ks.length = st.length) := Lib.hid (by have h1 := posS_int ks ks.length; rw [List.take_length, hf.sum] at h1; omega)
  clear h ha hf hri r1
  go_enter Try.func250, Try.ntmps250
  go_wp2
  go_loop [7, 8] (fun s i => ∃ t : Nat, t ≤ st.length ∧ i = .int .i64 t ∧ s = .int .i64 (sumS (st.take t))) (fun _ i => st.length - (intOf i).toNat)
  case atStart => exact ⟨0, by omega, rfl, rfl⟩
  case round =>
    obtain ⟨t, ht, rfl, rfl⟩ := hrel
    by_cases hlt : t < st.length
    · obtain ⟨b4, o4, rfl, -, hc4⟩ := H.out.ix hlt
      have f1 := hc4 t hlt
      have HS := Lib.hid (sumS_take st hlt)
      have hb1 := sumS_part (xs := st) t (fun x hx => by have := stkB_bd HF.out.s x hx; omega)
      have hb2 : 1 ≤ ix st t ∧ ix st t ≤ 4 := by rw [ix_eq hlt]; exact stkB_bd HF.out.s _ (List.getElem_mem hlt)
      have y1 : IntKind.i64.wrap (sumS (st.take t) + ix st t) = sumS (st.take t) + ix st t := IntWalk.i64_in _ (by omega)
      clear hc4
      go_wp2
      go_round
      case rel => exact ⟨t + 1, by omega, by go_num, by rw [HS.out]⟩
      case measure => first | (simp [intOf]; done) | (simp [intOf]; omega)
    · obtain rfl : t = st.length := by omega
      rw [List.take_length]
      go_wp2
      go_loopw [7, 10, 11, 12] (fun s f g i wr => ∃ t : Nat, t ≤ ks.length ∧ i = .int .i64 t ∧ f = .int .i64 (posS ks (ks.length - t)) ∧ g = .int .i64 (posM ks (ks.length - t)) ∧ s = .int .i64 (parS (-1) st ks t) ∧ Hid (thinTo (-1) st ks t = true) ∧ Hid (Up w wr)) (fun _ _ _ i _ => ks.length - (intOf i).toNat)
      case atStart => exact ⟨0, by omega, rfl, by first | rfl | (rw [Nat.sub_zero, HPN.out]), by first | rfl | (rw [Nat.sub_zero, ← HAL.out]), rfl, rfl, Chg.refl _ _⟩
      case round =>
        obtain ⟨t, ht, rfl, rfl, rfl, rfl, hth, hu⟩ := hrel
        have q0 := Chg.cell hu.out HR0.out id
        have q2 := Chg.cell hu.out HR2.out id
        by_cases hlt : t < ks.length
        rotate_left
        · obtain rfl : t = ks.length := by omega
          go_wp2
          go_ret
          exact ⟨ret_bool (by first | exact hth.out.symm | (unfold thinB; exact hth.out.symm)), hu.out⟩
        have HTT : Hid True := Lib.hid trivial
        obtain ⟨ki, HKI⟩ : ∃ ki : Nat, Hid (ordT (-1) ks.length t = ki) := ⟨_, Lib.hid rfl⟩
        have hki : ki = ks.length - 1 - t := by have h := HKI.out; unfold ordT at h; simp at h; omega
        have hkl : ki < ks.length := by omega
        obtain ⟨b3, o3, rfl, -, hc3⟩ := (HRI.out.up hu.out).ix hkl
        have f3 := hc3 ki hkl
        rw [ix_eq hkl] at f3
        obtain ⟨b6, o6, he6, -, hc6⟩ := (HRI.out.up hu.out).ix hlt
        obtain ⟨rfl, rfl⟩ : b3 = b6 ∧ o3 = o6 := by simpa using he6
        have f6 := hc6 t hlt
        clear hc6 he6
        have yk : IntKind.i64.wrap ((ks.length : Int) - 1) = (ks.length : Int) - 1 := IntWalk.i64_in _ (by omega)
        have yk2 : IntKind.i64.wrap ((ks.length : Int) - 1 - t) = (ki : Int) := (IntWalk.i64_in _ (by omega)).trans (by omega)
        have HKJ := Lib.hid (stB_kind HF.out.k _ (List.getElem_mem hkl))
        have HPS := Lib.hid (posS_succ hkl)
        have HPM := Lib.hid (posM_succ hkl)
        have HPT := Lib.hid (HF.out.pos hkl)
        have HLS : Hid ((stepAt st ks ki).length = (madeK ks[ki]).toNat) := Lib.hid (by unfold stepAt; rw [stepS_len, ix_eq hkl])
        have HLT : Hid ((tookAt st ks ki).length = (takenK ks[ki]).toNat) := Lib.hid (by unfold tookAt; rw [List.length_take, List.length_drop, ix_eq hkl]; have := HPT.out; omega)
        have HPL := Lib.hid (posM_le ks (show ki + 1 ≤ ks.length by omega) (Nat.le_refl _))
        obtain ⟨kd, HKD⟩ : ∃ kd, Hid (ks[ki] = kd) := ⟨_, Lib.hid rfl⟩
        rw [HKD.out] at f3 HKJ HPS HPM HPT HLS HLT
        obtain ⟨tk, HTK⟩ : ∃ tk : Nat, Hid (takenK kd = tk) := ⟨(takenK kd).toNat, Lib.hid (by have := takenK_bd kd; omega)⟩
        obtain ⟨mk, HMK⟩ : ∃ mk : Nat, Hid (madeK kd = mk) := ⟨(madeK kd).toNat, Lib.hid (by have := madeK_bd kd; omega)⟩
        have htk4 : tk ≤ 4 := by have h1 := HTK.out; have := takenK_bd kd; omega
        have hmk4 : mk ≤ 4 := by have h1 := HMK.out; have := madeK_bd kd; omega
        rw [HTK.out, Int.toNat_natCast] at HPS HPT HLT
        rw [HMK.out, Int.toNat_natCast] at HPM HLS
        have HTKO : Hid (takenOf kd = tk) := Lib.hid ((takenOf_ok HKJ.out).trans HTK.out)
        have HMKO : Hid (madeOf kd = mk) := Lib.hid ((madeOf_ok HKJ.out).trans HMK.out)
        have hp1 := HF.out.par (-1) t (by omega)
        have hp2 := HF.out.par (-1) (t + 1) (by omega)
        have HPAR : Hid (parS (-1) st ks (t + 1) = parS (-1) st ks t - sumS (tookAt st ks ki) + sumS (stepAt st ks ki)) := Lib.hid (by simp only [parS]; rw [HKI.out]; unfold chgAt; omega)
        have hs1 := fun k => sumS_part (xs := tookAt st ks ki) k (fun x hx => by have := (HF.out.took ki).2 x hx; have := stkB_bd HF.out.s x (List.mem_of_mem_drop (List.mem_of_mem_take hx)); omega)
        have HS1 := Lib.hid hs1
        have hs2 := fun k => sumS_part (xs := stepAt st ks ki) k (fun x hx => by have := (HF.out.step hkl).2 x hx; omega)
        have HS2 := Lib.hid hs2
        clear hs1 hs2 hc3
        have e8 : posS ks (ks.length - t) = posS ks ki + tk := by rw [show ks.length - t = ki + 1 by omega]; exact HPS.out
        have e9 : posM ks (ks.length - t) = posM ks ki + mk := by rw [show ks.length - t = ki + 1 by omega]; exact HPM.out
        rw [e8, e9]
        have HKE := Lib.hid hki
        clear e8 e9 hki
        have yA : IntKind.i64.wrap (((posS ks ki + tk : Nat) : Int) - tk) = (posS ks ki : Int) := (IntWalk.i64_in _ (by have := HPT.out; omega)).trans (by omega)
        have yA2 : IntKind.i64.wrap ((posS ks ki : Int) + tk - tk) = (posS ks ki : Int) := (IntWalk.i64_in _ (by have := HPT.out; omega)).trans (by omega)
        have yA3 : IntKind.i64.wrap (posS ks ki : Int) = (posS ks ki : Int) := IntWalk.i64_in _ (by have := HPT.out; omega)
        have yB3 : IntKind.i64.wrap (posM ks ki : Int) = (posM ks ki : Int) := IntWalk.i64_in _ (by have := HPL.out; have := HAL.out; have := HPM.out; omega)
        have yB2 : IntKind.i64.wrap ((posM ks ki : Int) + mk - mk) = (posM ks ki : Int) := (IntWalk.i64_in _ (by have := HPL.out; have := HAL.out; have := HPM.out; omega)).trans (by omega)
        go_wp2_with fail
        refine (sColumnsTaken_any _ _).mono ?_
        rintro e wa ⟨rfl, ga⟩
        rw [HTKO.out]
        replace hu := Lib.hid (Chg.trans hu.out ga)
        have q0 := Chg.cell ga q0 id
        have q2 := Chg.cell ga q2 id
        clear ga
        go_wp2_with fail
        refine (sColumnsMade_any _ _).mono ?_
        rintro e wb ⟨rfl, gb⟩
        rw [HMKO.out]
        replace hu := Lib.hid (Chg.trans hu.out gb)
        have q0 := Chg.cell gb q0 id
        have q2 := Chg.cell gb q2 id
        clear gb
        go_wp2_with fail
        go_loopw [7, 14] (fun s k wq => ∃ m : Nat, m ≤ tk ∧ k = .int .i64 m ∧ s = .int .i64 (parS (-1) st ks t - sumS ((tookAt st ks ki).take m)) ∧ Hid (Up w wq)) (fun _ k _ => tk - (intOf k).toNat)
        case atStart => exact ⟨0, by omega, rfl, by simp [sumS, sumF], hu.out⟩
        case round =>
          obtain ⟨m, hm, rfl, rfl, hu2⟩ := hrel
          go_wp2_with fail
          refine (sColumnsTaken_any _ _).mono ?_
          rintro e w4 ⟨rfl, g4⟩
          rw [HTKO.out]
          have HU4 := Lib.hid (Chg.trans hu2.out g4)
          clear g4
          by_cases hlt2 : m < tk
          · have hi9 : posS ks ki + m < st.length := by have := HPT.out; omega
            obtain ⟨b7, o7, rfl, -, hc7⟩ := (H.out.up HU4.out).ix hi9
            have f7 := hc7 (posS ks ki + m) hi9
            have HX : Hid (sumS ((tookAt st ks ki).take (m + 1)) = sumS ((tookAt st ks ki).take m) + ix st (posS ks ki + m)) := Lib.hid (by
              rw [sumS_take _ (by rw [HLT.out]; exact hlt2)]
              congr 1
              unfold tookAt
              exact ix_drop_take (by rw [ix_eq hkl, HKD.out, HTK.out]; simpa using hlt2) hi9)
            have hb1 := HS1.out m
            have hb3 := HS1.out (m + 1)
            have hb4 : (tookAt st ks ki).length = tk := HLT.out
            have hb2 : 1 ≤ ix st (posS ks ki + m) ∧ ix st (posS ks ki + m) ≤ 4 := by rw [ix_eq hi9]; exact stkB_bd HF.out.s _ (List.getElem_mem hi9)
            have y1 : IntKind.i64.wrap ((posS ks ki : Int) + m) = ((posS ks ki + m : Nat) : Int) := (IntWalk.i64_in _ (by omega)).trans (by omega)
            have y2 : IntKind.i64.wrap (parS (-1) st ks t - sumS ((tookAt st ks ki).take m) - ix st (posS ks ki + m)) = parS (-1) st ks t - sumS ((tookAt st ks ki).take (m + 1)) := by rw [HX.out]; exact (IntWalk.i64_in _ (by omega)).trans (by omega)
            have hi8 : (posS ks ki : Int) + m < st.length := by omega
            have hi7 : ((posS ks ki : Int) + m).toNat = posS ks ki + m := by omega
            have hi6 : 0 ≤ (posS ks ki : Int) + m := by omega
            have y1' : IntKind.i64.wrap ((posS ks ki : Int) + m) = (posS ks ki : Int) + m := IntWalk.i64_in _ (by omega)
            have y3 : IntKind.i64.wrap ((m : Int) + 1) = ((m + 1 : Nat) : Int) := (IntWalk.i64_in _ (by omega)).trans (by omega)
            have hm9 : (m : Int) < tk := by omega
            clear hc7 hb1 hb3 hb4 hb2
            go_wp2
            go_roundw
            case rel => exact ⟨m + 1, by omega, by first | rfl | go_num, by first | rfl | rw [y2], HU4.out⟩
            case measure => first | (simp [intOf]; done) | (simp [intOf]; omega)
          · obtain rfl : m = tk := by omega
            have e7 : (tookAt st ks ki).take m = tookAt st ks ki := List.take_of_length_le (by rw [HLT.out]; exact Nat.le_refl _)
            rw [e7]
            go_wp2
            go_loopw [7, 15] (fun s k wq => ∃ n : Nat, n ≤ mk ∧ k = .int .i64 n ∧ s = .int .i64 (parS (-1) st ks t - sumS (tookAt st ks ki) + sumS ((stepAt st ks ki).take n)) ∧ Hid (Up w wq)) (fun _ k _ => mk - (intOf k).toNat)
            case atStart => exact ⟨0, by omega, rfl, by simp [sumS, sumF], HU4.out⟩
            case round =>
              obtain ⟨n, hn, rfl, rfl, hu3⟩ := hrel
              go_wp2_with fail
              refine (sColumnsMade_any _ _).mono ?_
              rintro e w5 ⟨rfl, g5⟩
              rw [HMKO.out]
              have HU5 := Lib.hid (Chg.trans hu3.out g5)
              clear g5
              by_cases hlt3 : n < mk
              · have hi9 : posM ks ki + n < (aftTo st ks ks.length).length := by have := HPL.out; have := HAL.out; have := HPM.out; omega
                obtain ⟨b7, o7, rfl, -, hc7⟩ := (H2.out.up HU5.out).ix hi9
                have f7 := hc7 (posM ks ki + n) hi9
                rw [aft_at hkl (by rw [HLS.out]; exact hlt3)] at f7
                have HX : Hid (sumS ((stepAt st ks ki).take (n + 1)) = sumS ((stepAt st ks ki).take n) + ix (stepAt st ks ki) n) := Lib.hid (sumS_take _ (by rw [HLS.out]; exact hlt3))
                have hb1 := HS2.out n
                have hb3 := HS2.out (n + 1)
                have hb4 : (stepAt st ks ki).length = mk := HLS.out
                have hb5 := HS1.out m
                have hb6 : (tookAt st ks ki).length = m := HLT.out
                rw [List.take_of_length_le (Nat.le_of_eq hb6)] at hb5
                have y1 : IntKind.i64.wrap ((posM ks ki : Int) + n) = ((posM ks ki + n : Nat) : Int) := (IntWalk.i64_in _ (by omega)).trans (by omega)
                have y1' : IntKind.i64.wrap ((posM ks ki : Int) + n) = (posM ks ki : Int) + n := IntWalk.i64_in _ (by omega)
                have y2 : IntKind.i64.wrap (parS (-1) st ks t - sumS (tookAt st ks ki) + sumS ((stepAt st ks ki).take n) + ix (stepAt st ks ki) n) = parS (-1) st ks t - sumS (tookAt st ks ki) + sumS ((stepAt st ks ki).take (n + 1)) := by rw [HX.out] at *; exact (IntWalk.i64_in _ (by omega)).trans (by omega)
                have hi8 : (posM ks ki : Int) + n < (aftTo st ks ks.length).length := by omega
                have hi7 : ((posM ks ki : Int) + n).toNat = posM ks ki + n := by omega
                have hi6 : 0 ≤ (posM ks ki : Int) + n := by omega
                have y3 : IntKind.i64.wrap ((n : Int) + 1) = ((n + 1 : Nat) : Int) := (IntWalk.i64_in _ (by omega)).trans (by omega)
                have hm9 : (n : Int) < mk := by omega
                clear hc7 hb1 hb3 hb4 hb5 hb6
                go_wp2
                go_roundw
                case rel => exact ⟨n + 1, by omega, by first | rfl | go_num, by first | rfl | rw [y2], HU5.out⟩
                case measure => first | (simp [intOf]; done) | (simp [intOf]; omega)
              · obtain rfl : n = mk := by omega
                have e6 : (stepAt st ks ki).take n = stepAt st ks ki := List.take_of_length_le (by rw [HLS.out]; exact Nat.le_refl _)
                rw [e6, ← HPAR.out]
                have p0 := Chg.cell HU5.out HR0.out id
                have hp9 := HPL.out
                have hal := HAL.out
                have hpm := HPM.out
                have hpt := HPT.out
                have hps := HPS.out
                have y3 : IntKind.i64.wrap ((t : Int) + 1) = ((t + 1 : Nat) : Int) := (IntWalk.i64_in _ (by omega)).trans (by omega)
                by_cases h12 : parS (-1) st ks (t + 1) ≤ 12
                · have HT2 : Hid (thinTo (-1) st ks (t + 1) = true) := Lib.hid (by rw [thinTo_succ, hth.out, decide_eq_true h12]; rfl)
                  have t12 : decide ((12 : Int) < parS (-1) st ks (t + 1)) = false := decide_eq_false (by omega)
                  clear h12
                  have yt : ks.length - (t + 1) = ki := by have := HKE.out; omega
                  have YT := Lib.hid yt
                  clear hp9 hal hpm hpt hps yt
                  go_wp2
                  go_roundw
                  case rel => exact ⟨t + 1, by omega, by first | rfl | go_num, by rw [YT.out], by rw [YT.out], rfl, HT2.out, HU5.out⟩
                  case measure => first | (simp [intOf]; done) | (simp [intOf]; omega)
                · have HV := Lib.hid (thinTo_false hlt h12)
                  have t12 : decide ((12 : Int) < parS (-1) st ks (t + 1)) = true := decide_eq_true (by omega)
                  clear h12 hp9 hal hpm hpt hps
                  go_wp2
                  go_ret
                  exact ⟨ret_bool (by first | exact HV.out.symm | (unfold thinB; exact HV.out.symm)), HU5.out⟩
end Go.Proofs.Ytnjfhpgmogopnaa
namespace Go.Proofs.Ytnjfhpgmogopnaa
open Go.ChangeShapes Go.WideShapes Go.ChangeAt Go.RowKit
structure ChartM where
  n : Int
  rs : List RowM
/-- a slice of rows -/
def RowsV (w : World) (S : Nat → Prop) (v : Value) (rs : List RowM) : Prop :=
  ∃ A c, v = .slice A rs.length c ∧ rs.length ≤ c ∧ c ≤ 9223372036854775807 ∧ (0 < rs.length → ∃ b o, A = some ⟨b, o, none⟩ ∧ S b ∧ ∀ i (hi : i < rs.length), RowAt w S b (o + i * 3) rs[i]) ∧ (A = none → c = 0)
section
variable {S T : Nat → Prop} {w w' : World} {v : Value} {rs : List RowM}
theorem RowAt.lt {b o : Nat} {r : RowM} (h : RowAt w S b o r) : b < w.heap.size := by
  obtain ⟨A, c, h1, h2, h3, h4, h5, h6, h7, h8⟩ := h
  exact h8
theorem RowAt.mono {b o : Nat} {r : RowM} (h : RowAt w S b o r) (hs : ∀ b, b < w.heap.size → S b → T b) : RowAt w T b o r := by
  obtain ⟨A, c, h1, h2, h3, h4, h5, h6, h7, h8⟩ := h
  exact ⟨A, c, h1, h2, h3, h4.mono hs, h5, h6, h7, h8⟩
theorem RowsV.keep (h : RowsV w S v rs) (g : Chg T w w') (hd : ∀ b, b < w.heap.size → S b → ¬ T b) : RowsV w' S v rs := by
  obtain ⟨A, c, hv, h1, h2, h4, h5⟩ := h
  refine ⟨A, c, hv, h1, h2, fun hp => ?_, h5⟩
  obtain ⟨b, o, ha, hs, hc⟩ := h4 hp
  exact ⟨b, o, ha, hs, fun i hi => (hc i hi).keep g hd (hd b (hc i hi).lt hs)⟩
theorem RowsV.up (h : RowsV w S v rs) (g : Up w w') : RowsV w' S v rs := h.keep g fun _ _ _ h => h
theorem RowsV.mono (h : RowsV w S v rs) (hs : ∀ b, b < w.heap.size → S b → T b) : RowsV w T v rs := by
  obtain ⟨A, c, hv, h1, h2, h4, h5⟩ := h
  refine ⟨A, c, hv, h1, h2, fun hp => ?_, h5⟩
  obtain ⟨b, o, ha, hS, hc⟩ := h4 hp
  exact ⟨b, o, ha, hs b (hc 0 hp).lt hS, fun i hi => (hc i hi).mono hs⟩
theorem RowsV.shape (h : RowsV w S v rs) : ∃ A c, v = .slice A rs.length c ∧ rs.length ≤ c ∧ c ≤ 9223372036854775807 ∧ (A = none → c = 0) :=
  let ⟨A, c, h1, h2, h3, _, h4⟩ := h; ⟨A, c, h1, h2, h3, h4⟩
theorem RowsV.at_ {A : Option Addr} {c : Nat} (h : RowsV w S (.slice A rs.length c) rs) {i : Nat} (hi : i < rs.length) : ∃ b o, A = some ⟨b, o, none⟩ ∧ ∀ j (hj : j < rs.length), RowAt w S b (o + j * 3) rs[j] := by
  obtain ⟨A', c', he, h1, h2, h4, h5⟩ := h
  obtain ⟨rfl, rfl⟩ : A = A' ∧ c = c' := by simpa using he
  obtain ⟨b, o, ha, hS, hc⟩ := h4 (by omega)
  exact ⟨b, o, ha, hc⟩
end
/-- a chart by value -/
def ChartV (w : World) (S : Nat → Prop) (v : Value) (c : ChartM) : Prop := ∃ s, v = .agg #[.int .i64 c.n, s] ∧ RowsV w S s c.rs ∧ I64 c.n
theorem ChartV.shape {w : World} {S : Nat → Prop} {v : Value} {c : ChartM} (h : ChartV w S v c) : ∃ A k, v = .agg #[.int .i64 c.n, .slice A c.rs.length k] ∧ RowsV w S (.slice A c.rs.length k) c.rs ∧ c.rs.length ≤ k ∧ k ≤ 9223372036854775807 ∧ I64 c.n := by
  obtain ⟨s, h1, h2, h3⟩ := h
  obtain ⟨A, k, rfl, h4, h5, _⟩ := h2.shape
  exact ⟨A, k, h1, h2, h4, h5, h3⟩
/-- a chart behind a pointer -/
def ChartAt (w : World) (S : Nat → Prop) (b o : Nat) (c : ChartM) : Prop :=
  ∃ A k, w.cell? ⟨b, o, none⟩ = some (.int .i64 c.n) ∧ w.cell? ⟨b, o + 1, none⟩ = some (.slice A c.rs.length k) ∧ RowsV w S (.slice A c.rs.length k) c.rs ∧ c.rs.length ≤ k ∧ k ≤ 9223372036854775807 ∧ I64 c.n ∧ b < w.heap.size
theorem ChartAt.keep {S T : Nat → Prop} {w w' : World} {b o : Nat} {c : ChartM} (h : ChartAt w S b o c) (g : Chg T w w') (hd : ∀ b, b < w.heap.size → S b → ¬ T b) (hb : ¬ T b) : ChartAt w' S b o c := by
  obtain ⟨A, k, h1, h2, h3, h4, h5, h6, h7⟩ := h
  exact ⟨A, k, g.cell h1 hb, g.cell h2 hb, h3.keep g hd, h4, h5, h6, Nat.lt_of_lt_of_le h7 g.size⟩
theorem ChartAt.up {S : Nat → Prop} {w w' : World} {b o : Nat} {c : ChartM} (h : ChartAt w S b o c) (g : Up w w') : ChartAt w' S b o c := h.keep g (fun _ _ _ h => h) id
/-- the row at a place -/
def rowI (rs : List RowM) (i : Nat) : RowM := rs.getD i ⟨0, 0, []⟩
theorem rowI_eq {rs : List RowM} {i : Nat} (h : i < rs.length) : rowI rs i = rs[i] := by unfold rowI; simp [h]
/-- the stacks ahead of row j -/
def atS (n : Int) (rs : List RowM) : Nat → List Int
  | 0 => List.replicate n.toNat 1
  | j + 1 => saL (atS n rs j) (rowI rs j).xs
def okR (st : List Int) (r : RowM) : Bool := rowB r.d r.c r.xs && (decide (saC st r.xs = 0) && thinB r.d st r.xs)
def okC (n : Int) (rs : List RowM) (j : Nat) : Bool := (List.range j).all fun i => okR (atS n rs i) (rowI rs i)
def outC (n : Int) (rs : List RowM) (j : Nat) : List (List Int) := (List.range j).map fun i => atS n rs (i + 1)
theorem okC_succ (n : Int) (rs : List RowM) (j : Nat) : okC n rs (j + 1) = (okC n rs j && okR (atS n rs j) (rowI rs j)) := by
  unfold okC; rw [List.range_succ, List.all_append]; simp
theorem outC_succ (n : Int) (rs : List RowM) (j : Nat) : outC n rs (j + 1) = outC n rs j ++ [saL (atS n rs j) (rowI rs j).xs] := by
  unfold outC; rw [List.range_succ, List.map_append]; rfl
theorem outC_length (n : Int) (rs : List RowM) (j : Nat) : (outC n rs j).length = j := by simp [outC]
theorem okC_false {n : Int} {rs : List RowM} {j m : Nat} (hj : j < m) (h : okR (atS n rs j) (rowI rs j) = false) : okC n rs m = false := by
  unfold okC
  rw [Bool.eq_false_iff]
  intro hh
  rw [List.all_eq_true.1 hh j (by simpa using hj)] at h
  cases h
def sizeB (c : ChartM) : Bool := inB c.n 1 8 && inB c.rs.length 1 8
def chartB (c : ChartM) : Bool := sizeB c && okC c.n c.rs c.rs.length
def chartL (c : ChartM) : List (List Int) := if chartB c then outC c.n c.rs c.rs.length else []
theorem chart_no {c : ChartM} (h : sizeB c = false) : chartB c = false ∧ chartL c = [] := by
  have e : chartB c = false := by unfold chartB; rw [h]; rfl
  exact ⟨e, by unfold chartL; rw [e]; rfl⟩
theorem chart_bad {c : ChartM} {j : Nat} (hj : j < c.rs.length) (h : okR (atS c.n c.rs j) (rowI c.rs j) = false) : chartB c = false ∧ chartL c = [] := by
  have e : chartB c = false := by unfold chartB; rw [okC_false hj h, Bool.and_false]
  exact ⟨e, by unfold chartL; rw [e]; rfl⟩
theorem chart_yes {c : ChartM} (h : sizeB c = true) (h2 : okC c.n c.rs c.rs.length = true) : chartB c = true ∧ chartL c = outC c.n c.rs c.rs.length := by
  have e : chartB c = true := by unfold chartB; rw [h, h2]; rfl
  exact ⟨e, by unfold chartL; rw [e]; rfl⟩
set_option maxRecDepth 100000 in
/-- 'out = append(out, list)', where the list was made behind the row -/
theorem wp_append_ss2 {w : World} {ops : Array Oper} {rest : List Oper} {o : Oper} {a : Act} {Q : Exit → Act → World → Prop} (hgd : o.guard = none) (s x : Operand)
    (ho : o.op = .call { callee := .builtin .append, args := #[s, x], argTypes := #[34, 34] })
    (base : Nat) (wr : World) (v : Value) (xss : List (List Int)) (hs : a.eval s = v) (hown : OwnSS wr base v xss) (hup : Up wr w)
    (g : Nat) (u : Value) (ys : List Int) (hx : a.eval x = .slice (some ⟨g, 0, none⟩) 1 1) (hc : w.cell? ⟨g, 0, none⟩ = some u) (hu : Ints w (New wr.heap.size w.heap.size) u ys) (hlen : xss.length ≤ 1099511627) (hbase : base ≤ wr.heap.size)
    (h : ∀ v' w', OwnSS w' base v' (xss ++ [ys]) → Chg (fun k => base ≤ k ∧ k < wr.heap.size) w w' → wpList Try.prog ops Q rest (a.put o.dst v') w') : wpList Try.prog ops Q (o :: rest) a w := by
  obtain ⟨i0, hi, hz0, hz1, hz2⟩ := info_parts infoS
  obtain ⟨A, c, rfl, -⟩ := hu.shape
  obtain ⟨vs, q, h1, h2, h3, h4⟩ := hown
  have hsz := hup.size
  have h1' := ownsRow_kept h1 hup (fun _ _ h => h)
  refine wpList_append_own2 (P := Try.prog) hgd s x 34 ho base 37 i0 (.slice none 0 0) 1 24 Try.underlying34 hi hz0 hz1 hz2 rfl (by decide) v xss.length _ hs h1' ⟨g, 0, none⟩ 1 1 [.slice A ys.length c] hx rfl ?_ ?_ ?_ ?_ (by omega) ?_
  · intro j r hr
    cases j with
    | zero => simp only [List.getElem?_cons_zero, Option.some.injEq] at hr; subst hr; rw [add_zero]; exact hc
    | succ j => simp at hr
  · intro r hr; simp at hr; subst hr; rfl
  · unfold Go.maxLen; omega
  · omega
  · intro v' w' k1 k2 k3
    have hlt := h1.lt
    have hown2 : ∀ b, v.ownBlock = some b → b < wr.heap.size := fun b hb => (hlt b hb).2
    have hvl : vs.length = xss.length := by have := h1.1; omega
    refine h v' w' ⟨vs ++ [.slice A ys.length c], fun i b => (i < xss.length ∧ q i b) ∨ (i = xss.length ∧ New wr.heap.size w.heap.size b), by simpa using k1, ?_, ?_, ?_⟩ ((Chg.refl _ _).grown k2 fun k hk => .inl (hlt k hk))
    · rintro i b (⟨hi', hq⟩ | ⟨rfl, hq⟩)
      · obtain ⟨a1, a2, a3⟩ := h2 i b hq
        refine ⟨a1, by have := k2.size; omega, fun hh => ?_⟩
        rcases k3 b hh with k4 | k4
        · exact a3 k4
        · omega
      · refine ⟨by have := hq.1; omega, by have := k2.size; have := hq.2; omega, fun hh => ?_⟩
        rcases k3 b hh with k4 | k4
        · have := hown2 b k4; have := hq.1; omega
        · have := hq.2; omega
    · rintro i j b (⟨hi', hq⟩ | ⟨rfl, hq⟩) (⟨hj', hq'⟩ | ⟨rfl, hq'⟩)
      · exact h3 i j b hq hq'
      · have := (h2 i b hq).2.1; have := hq'.1; omega
      · have := (h2 j b hq').2.1; have := hq.1; omega
      · rfl
    · intro i hi'
      have hC := Chg.of_grown k2
      by_cases he : i < xss.length
      · obtain ⟨r, hr, hk⟩ := h4 i he
        refine ⟨r, by rw [List.getElem?_append_left (by omega)]; exact hr, ?_⟩
        rw [List.getElem_append_left he]
        exact ((hk.up hup).keep hC (fun b _ hq hb => (h2 i b hq).2.2 hb)).mono (fun b _ hq => .inl ⟨he, hq⟩)
      · have hi2 : i = xss.length := by simp at hi'; omega
        subst hi2
        refine ⟨.slice A ys.length c, by rw [List.getElem?_append_right (by omega), hvl]; simp, ?_⟩
        rw [List.getElem_append_right (by omega)]
        simp only [Nat.sub_self, List.getElem_cons_zero]
        exact (hu.keep hC (fun b _ hq hb => by have := hown2 b hb; have := hq.1; omega)).mono (fun b _ hq => .inr ⟨by first | rfl | trivial, hq⟩)
end Go.Proofs.Ytnjfhpgmogopnaa
namespace Go.Proofs.Ytnjfhpgmogopnaa
open Go.ChangeShapes Go.WideShapes Go.ChangeAt Go.RowKit
set_option linter.unusedSimpArgs false
set_option linter.unusedVariables false
set_option maxRecDepth 100000
set_option maxHeartbeats 400000
theorem okR_1 {st : List Int} {r : RowM} (h : rowB r.d r.c r.xs = false) : okR st r = false := by unfold okR; rw [h]; rfl
theorem okR_2 {st : List Int} {r : RowM} (h : ¬ saC st r.xs = 0) : okR st r = false := by unfold okR; rw [decide_eq_false h, Bool.false_and, Bool.and_false]
theorem okR_3 {st : List Int} {r : RowM} (h : rowB r.d r.c r.xs = true) (h2 : saC st r.xs = 0) : okR st r = thinB r.d st r.xs := by unfold okR; rw [h, decide_eq_true h2]; simp
def resL (n : Int) (rs : List RowM) : List (List Int) := if okC n rs rs.length then outC n rs rs.length else []
theorem resL_no {n : Int} {rs : List RowM} (h : okC n rs rs.length = false) : resL n rs = [] := by unfold resL; rw [h]; rfl
theorem resL_yes {n : Int} {rs : List RowM} (h : okC n rs rs.length = true) : resL n rs = outC n rs rs.length := by unfold resL; rw [h]; rfl
theorem allStacks_yes (w : World) (S : Nat → Prop) (A : Option Addr) (k m : Nat) (rs : List RowM) (hr : RowsV w S (.slice A rs.length k) rs) (hlk : rs.length ≤ k) (hkm : k ≤ 9223372036854775807) (hm : 1 ≤ m ∧ m ≤ 8) (hl : 1 ≤ rs.length ∧ rs.length ≤ 8) :
    Calls Try.prog 157 #[.agg #[.int .i64 (m : Int), .slice A rs.length k]] w fun e w' => ∃ v', e = .returned (.tuple #[v', .bool (okC m rs rs.length)]) ∧ IntSS w' (New w.heap.size w'.heap.size) v' (resL m rs) ∧ Up w w' := by
  have HR0 := Lib.hid (hr.mono (T := fun b => b < w.heap.size) fun _ h _ => h)
  have U0 := Lib.hid ((Chg.refl Nowhere w).alloc (.cells #[.int .i64 (m : Int), .slice A rs.length k] 57))
  have HW := Lib.hid (fun w => by have := within_any (m : Int) 1 8 w; rw [inB_yes (by omega)] at this; exact this)
  have t1 : decide ((rs.length : Int) < 1) = false := decide_eq_false (by omega)
  have t2 : decide ((8 : Int) < (rs.length : Int)) = false := decide_eq_false (by omega)
  have HM := Lib.hid hm
  have hlit := lit1 (w.alloc (.cells #[.int .i64 (m : Int), .slice A rs.length k] 57)) 1 (by unfold I64; omega) (w.heap.size + 1) (by simp)
  rw [World.size_alloc w] at hlit
  have HLIT := Lib.hid hlit
  clear hr hlit
  go_enter Try.func157, Try.ntmps157
  go_wp2_with fail
  refine (HW.out _).mono ?_
  rintro e w' ⟨rfl, rfl⟩
  go_wp2_with fail
  with_reducible refine (repeat_any _ _ _ HLIT.out m HM.out).mono ?_
  rintro e w2 ⟨v2, rfl, k2, g2⟩
  obtain ⟨A2, c2, rfl, hl2, hc2, -⟩ := k2.shape
  have K2 := Lib.hid k2
  have U2 := Lib.hid (Chg.trans (U0.out.alloc (.cells #[.int .i64 1] 2)) g2)
  have hz2 : w.heap.size + 1 ≤ w2.heap.size := by have h1 := g2.size; rw [World.size_alloc, World.size_alloc] at h1; omega
  have HZ2 := Lib.hid hz2
  have b1 : w2.cell? ⟨w.heap.size, 1, none⟩ = some (.slice A rs.length k) := Chg.cell (Chg.trans ((Chg.refl Nowhere _).alloc (.cells #[.int .i64 1] 2)) g2) (cell_new _ _ _ _) id
  have b2 := Chg.cell ((Chg.refl Nowhere w2).alloc (.cells #[] 37)) b1 id
  have hk2 := (k2.mono (T := fun _ => True) fun _ _ _ => trivial).up ((Chg.refl _ _).alloc (.cells #[] 37))
  rw [List.length_replicate] at hk2
  have e0 : List.replicate m (1 : Int) = atS m rs 0 := by unfold atS; rw [Int.toNat_natCast]
  rw [e0] at hk2
  have HK2 := Lib.hid hk2
  clear k2 g2 hz2 hk2 e0
  go_wp2
  clear b1 b2
  go_loopw [4, 5, 34] (fun q r i wr => ∃ (j : Nat), j ≤ rs.length ∧ i = .int .i64 j ∧ Hid (Ints wr (fun _ => True) q (atS m rs j)) ∧ Hid (OwnSS wr (w.heap.size + 1) r (outC m rs j)) ∧ Hid (okC m rs j = true) ∧ Hid (Up w wr) ∧ Hid (w.heap.size + 1 ≤ wr.heap.size)) (fun _ _ i _ => rs.length - (intOf i).toNat)
  case atStart =>
    refine ⟨0, by omega, rfl, ?_, OwnSS.made _ _ HZ2.out, rfl, U2.out.alloc _, Lib.hid (by have := HZ2.out; rw [World.size_alloc]; omega)⟩
    exact HK2.out
  case round =>
    obtain ⟨j, hj, rfl, hq, hr, hok, hu, hz⟩ := hrel
    by_cases hlt : j < rs.length
    · obtain ⟨b, o, rfl, hc⟩ := (HR0.out.up hu.out).at_ hlt
      have hrow := hc j hlt
      obtain ⟨⟨d, cr, ks⟩, HRJ⟩ : ∃ r, Hid (rs[j] = r) := ⟨_, Lib.hid rfl⟩
      obtain ⟨st, HST⟩ : ∃ st, Hid (atS m rs j = st) := ⟨_, Lib.hid rfl⟩
      have HOK : Hid (okC m rs (j + 1) = okR st ⟨d, cr, ks⟩) := Lib.hid (by rw [okC_succ, hok.out, HST.out, rowI_eq hlt, HRJ.out]; rfl)
      have HNX : Hid (atS m rs (j + 1) = saL st ks) := Lib.hid (by unfold atS; rw [HST.out, rowI_eq hlt, HRJ.out])
      have HOU : Hid (outC m rs (j + 1) = outC m rs j ++ [saL st ks]) := Lib.hid (by rw [outC_succ, HST.out, rowI_eq hlt, HRJ.out])
      have HBAD : Hid (okR st ⟨d, cr, ks⟩ = false → okC m rs rs.length = false) := Lib.hid (fun h => okC_false hlt (by rw [HST.out, rowI_eq hlt, HRJ.out]; exact h))
      have HLN := Lib.hid (show (outC m rs j).length ≤ 1099511627 by rw [outC_length]; omega)
      rw [HRJ.out] at hrow
      rw [HST.out] at hq
      obtain ⟨A3, c3, f1, f2, f3, hi3, hl3, hc3⟩ := hrow.open_
      obtain ⟨-, -, -, -, -, -, -, -, hd64, -⟩ := hrow
      have HI3 := Lib.hid hi3
      have HI64 := Lib.hid hd64
      obtain ⟨A4, c4, rfl, hl4, hc4, -⟩ := hq.out.shape
      obtain ⟨A5, c5, rfl, hl5, hc5, -⟩ := hr.out.ss.shape
      have HRV := Lib.hid (show RowV (wr.alloc (.cells #[.int .i64 d, .int .i64 cr, .slice A3 ks.length c3] 87)) _ (.agg #[.int .i64 d, .int .i64 cr, .slice A3 ks.length c3]) ⟨d, cr, ks⟩ from ⟨_, rfl, HI3.out.up ((Chg.refl Nowhere _).alloc _), HI64.out⟩)
      have B0 := Lib.hid (show Bx (wr.alloc (.cells #[.int .i64 d, .int .i64 cr, .slice A3 ks.length c3] 87)) wr.heap.size _ _ _ from box3 wr _ _ _ _)
      have UB := Lib.hid ((Chg.refl Nowhere wr).alloc (.cells #[.int .i64 d, .int .i64 cr, .slice A3 ks.length c3] 87))
      clear hc hd64 hi3
      go_wp2_with fail
      with_reducible refine (ValidRow_any _ _ _ _ HRV.out).mono ?_
      rintro e w3 ⟨rfl, g3⟩
      have G3 := Lib.hid (Chg.trans UB.out g3)
      have B3 := Lib.hid (B0.out.up g3)
      clear g3 f1 f2 f3
      cases hrb : rowB d cr ks with
      | false =>
        have HV := Lib.hid (HBAD.out (okR_1 hrb))
        go_wp2
        go_ret2
        rw [HV.out, resL_no HV.out]
        exact ⟨_, rfl, IntSS.nil _ _ 0 none (by omega), Chg.trans hu.out G3.out⟩
      | true =>
        have HRB := Lib.hid hrb
        obtain ⟨q1, q2, q3⟩ := B3.out
        clear hrb
        go_wp2_with fail
        with_reducible refine (StacksAfter_any _ _ _ _ _ st ks (hq.out.up G3.out) (HI3.out.up G3.out)).mono ?_
        rintro e w4 ⟨v4, rfl, k4, g4⟩
        obtain ⟨A6, c6, rfl, hl6, hc6, -⟩ := k4.shape
        have K4 := Lib.hid k4
        have G4 := Lib.hid (Chg.trans G3.out g4)
        have B4 := Lib.hid (B3.out.up g4)
        have z3 := Lib.hid G3.out.size
        clear k4 g4 q1 q2 q3
        by_cases hs0 : saC st ks = 0
        rotate_left
        · have HV := Lib.hid (HBAD.out (okR_2 (r := ⟨d, cr, ks⟩) hs0))
          have t3 : (saC st ks == 0) = false := by simpa using hs0
          have t4 : (saC st ks != 0) = true := by simpa using hs0
          clear hs0
          go_wp2
          go_ret2
          rw [HV.out, resL_no HV.out]
          exact ⟨_, rfl, IntSS.nil _ _ 0 none (by omega), Chg.trans hu.out G4.out⟩
        have HS0 := Lib.hid hs0
        have t4 : (saC st ks != 0) = false := by simpa using hs0
        have HO3 := Lib.hid (okR_3 (r := ⟨d, cr, ks⟩) HRB.out HS0.out)
        have HFT := Lib.hid (saC_fits hs0).1
        have HDR := Lib.hid (rowB_dir HRB.out).1
        obtain ⟨q1, q2, q3⟩ := B4.out
        clear hs0
        go_wp2_with fail
        with_reducible refine (keepsLimit_any _ _ _ _ d cr A3 c3 st ks (HI3.out.up G4.out) (hq.out.up G4.out) HFT.out HDR.out HI64.out.2).mono ?_
        rintro e w5 ⟨rfl, g5⟩
        have G5 := Lib.hid (Chg.trans G4.out g5)
        have K5 := Lib.hid (K4.out.up g5)
        clear g5 q1 q2 q3
        cases htb : thinB d st ks with
        | false =>
          have HV := Lib.hid (HBAD.out (HO3.out.trans htb))
          clear htb
          go_wp2
          go_ret2
          rw [HV.out, resL_no HV.out]
          exact ⟨_, rfl, IntSS.nil _ _ 0 none (by omega), Chg.trans hu.out G5.out⟩
        | true =>
          have HV := Lib.hid (HOK.out.trans (HO3.out.trans htb))
          clear htb
          have UA := Lib.hid (G5.out.alloc (.cells #[.slice A6 (saL st ks).length c6] 37))
          have KA := Lib.hid ((K5.out.up ((Chg.refl Nowhere _).alloc (.cells #[.slice A6 (saL st ks).length c6] 37))).mono (T := New wr.heap.size (w5.alloc (.cells #[.slice A6 (saL st ks).length c6] 37)).heap.size) (fun b h1 hb => ⟨by have := hb.1; have := z3.out; omega, h1⟩))
          go_wp2_with (first | (at_builtin; refine wp_append_ss2 rfl _ _ rfl (w.heap.size + 1) wr _ (outC m rs j) rfl hr.out UA.out _ _ (saL st ks) rfl (cell_new _ _ _ _) KA.out HLN.out hz.out ?_; intro v9 w9 ho9 hg9; have HO9 := Lib.hid ho9; have HG9 := Lib.hid hg9; clear ho9 hg9))
          go_roundw
          case rel =>
            have hj2 := (KA.out.keep HG9.out (fun b h1 h2 h9 => by have := h2.1; have := h9.2; omega)).mono (T := fun _ => True) (fun _ _ _ => trivial)
            rw [← HOU.out] at HO9
            exact ⟨j + 1, by omega, by go_num, Lib.hid (by rw [HNX.out]; exact hj2), HO9, HV, Lib.hid (Chg.new (Chg.trans hu.out UA.out) HG9.out (fun i hi h => by have h := h.1; omega)), Lib.hid (by have h1 := HG9.out.size; have h2 := UA.out.size; have h3 := hz.out; omega)⟩
          case measure => first | (simp [intOf]; done) | (simp [intOf]; omega)
    · obtain rfl : j = rs.length := by omega
      go_wp2
      go_ret2
      rw [hok.out, resL_yes hok.out]
      refine ⟨_, rfl, (hr.out.ss).mono (fun b hb => ⟨by have := hb.1; omega, hb.2⟩), hu.out⟩
theorem allStacks_any (w : World) (S : Nat → Prop) (v : Value) (c : ChartM) (h : ChartV w S v c) :
    Calls Try.prog 157 #[v] w fun e w' => ∃ v', e = .returned (.tuple #[v', .bool (chartB c)]) ∧ IntSS w' (New w.heap.size w'.heap.size) v' (chartL c) ∧ Up w w' := by
  obtain ⟨A, k, rfl, hr, hlk, hkm, hI⟩ := h.shape
  have HR0 := Lib.hid (hr.mono (T := fun b => b < w.heap.size) fun _ h _ => h)
  have HI := Lib.hid hI
  have U0 := Lib.hid ((Chg.refl Nowhere w).alloc (.cells #[.int .i64 c.n, .slice A c.rs.length k] 57))
  have HR := Lib.hid (HR0.out.up U0.out)
  clear h hr hI
  cases h1 : inB c.n 1 8 with
  | false =>
    have HV := Lib.hid (chart_no (c := c) (by unfold sizeB; rw [h1]; rfl))
    have HW := Lib.hid (fun w => by have := within_any c.n 1 8 w; rw [h1] at this; exact this)
    clear h1
    go_enter Try.func157, Try.ntmps157
    go_wp2_with fail
    refine (HW.out _).mono ?_
    rintro e w' ⟨rfl, rfl⟩
    go_wp2
    go_ret2
    rw [HV.out.1, HV.out.2]
    exact ⟨_, rfl, IntSS.nil _ _ 0 none (by omega), U0.out⟩
  | true =>
    have HW := Lib.hid (fun w => by have := within_any c.n 1 8 w; rw [h1] at this; exact this)
    by_cases h2 : c.rs.length < 1
    · have HV := Lib.hid (chart_no (c := c) (by unfold sizeB inB; rw [decide_eq_false (p := 1 ≤ (c.rs.length : Int) ∧ _) (by omega), Bool.and_false]))
      have t1 : decide ((c.rs.length : Int) < 1) = true := decide_eq_true (by omega)
      clear h1
      go_enter Try.func157, Try.ntmps157
      go_wp2_with fail
      refine (HW.out _).mono ?_
      rintro e w' ⟨rfl, rfl⟩
      go_wp2
      go_ret2
      rw [HV.out.1, HV.out.2]
      exact ⟨_, rfl, IntSS.nil _ _ 0 none (by omega), U0.out⟩
    by_cases h3 : 8 < c.rs.length
    · have HV := Lib.hid (chart_no (c := c) (by unfold sizeB inB; rw [decide_eq_false (p := 1 ≤ (c.rs.length : Int) ∧ _) (by omega), Bool.and_false]))
      have t1 : decide ((c.rs.length : Int) < 1) = false := decide_eq_false (by omega)
      have t2 : decide ((8 : Int) < (c.rs.length : Int)) = true := decide_eq_true (by omega)
      clear h1
      go_enter Try.func157, Try.ntmps157
      go_wp2_with fail
      refine (HW.out _).mono ?_
      rintro e w' ⟨rfl, rfl⟩
      go_wp2
      go_ret2
      rw [HV.out.1, HV.out.2]
      exact ⟨_, rfl, IntSS.nil _ _ 0 none (by omega), U0.out⟩
    have HSZ : sizeB c = true := by unfold sizeB; rw [h1]; unfold inB; rw [decide_eq_true (p := 1 ≤ (c.rs.length : Int) ∧ _) (by omega)]; rfl
    have hn : 1 ≤ c.n ∧ c.n ≤ 8 := by unfold inB at h1; exact of_decide_eq_true h1
    have e1 : chartB c = okC c.n c.rs c.rs.length := by unfold chartB; rw [HSZ, Bool.true_and]
    have e2 : chartL c = resL c.n c.rs := by unfold chartL resL; rw [e1]
    rw [e1, e2]
    obtain ⟨m, hm⟩ : ∃ m : Nat, c.n = m := ⟨c.n.toNat, by omega⟩
    rw [hm] at hn ⊢
    exact allStacks_yes w _ A k m c.rs HR0.out hlk hkm (by omega) (by omega)
end Go.Proofs.Ytnjfhpgmogopnaa
set_option linter.unusedSimpArgs false
set_option linter.unusedVariables false
set_option maxRecDepth 100000
set_option maxHeartbeats 400000
namespace Go.Proofs.Ytnjfhpgmogopnaa
open Go.ChangeShapes Go.WideShapes Go.ChangeAt Go.RowKit
theorem saC_le8 {st ks : List Int} (h : saC st ks = 0) : (aftTo st ks ks.length).length ≤ 8 := by
  unfold saC at h
  cases hb : (stkB st && stB ks) with
  | false => rw [hb] at h; simp at h
  | true =>
    by_cases hs : sumF takenK ks = st.length
    · rw [hb, if_pos rfl, if_pos hs] at h
      cases h8 : decide ((aftTo st ks ks.length).length ≤ 8) with
      | true => exact of_decide_eq_true h8
      | false => rw [h8, Bool.and_false] at h; simp at h
    · rw [hb, if_pos rfl, if_neg hs] at h; omega
theorem l15Stacks_yes (w : World) (S : Nat → Prop) (pb po : Nat) (A : Option Addr) (k m : Nat) (rs : List RowM) (h0 : w.cell? ⟨pb, po, none⟩ = some (.int .i64 (m : Int))) (h1 : w.cell? ⟨pb, po + 1, none⟩ = some (.slice A rs.length k)) (hr : RowsV w S (.slice A rs.length k) rs) (hlk : rs.length ≤ k) (hkm : k ≤ 9223372036854775807) (hm : 1 ≤ m ∧ m ≤ 8) (hl : 1 ≤ rs.length ∧ rs.length ≤ 8) :
    Calls Try.prog 209 #[.pointer (some ⟨pb, po, none⟩)] w fun e w' => ∃ v', e = .returned (.tuple #[v', .bool (okC m rs rs.length)]) ∧ IntSS w' (New w.heap.size w'.heap.size) v' (resL m rs) ∧ Up w w' := by
  have HR0 := Lib.hid (hr.mono (T := fun b => b < w.heap.size) fun _ h _ => h)
  have H0 := Lib.hid h0
  have H1 := Lib.hid h1
  have HW := Lib.hid (fun w => l00In_yes (m : Int) 1 8 w (by omega))
  have HW2 := Lib.hid (fun w => l00In_yes (rs.length : Int) 1 8 w (by omega))
  have HM := Lib.hid hm
  clear hr
  go_enter Try.func209, Try.ntmps209
  go_wp2_with fail
  refine (HW.out _).mono ?_
  rintro e w' ⟨rfl, rfl⟩
  go_wp2_with fail
  refine (HW2.out _).mono ?_
  rintro e w' ⟨rfl, rfl⟩
  go_wp2
  clear h0 h1
  go_loopw [4] (fun q wr => ∃ (j : Nat), j ≤ m ∧ Hid (OwnI wr w.heap.size q (List.replicate j 1)) ∧ Hid (Up w wr)) (fun q _ => m - (match q with | .slice _ n _ => n | _ => 0))
  case atStart =>
    exact ⟨0, by omega, OwnI.made _ _ (Nat.le_refl _), Lib.hid ((Chg.refl _ _).alloc _)⟩
  case round =>
    obtain ⟨j, hj, hq, hu⟩ := hrel
    have p0 := Chg.cell hu.out H0.out id
    obtain ⟨A1, c1, rfl, hl1, hc1, -⟩ := hq.out.ints.shape
    rw [List.length_replicate] at hl1 hq ⊢
    have HU1 := Lib.hid hu.out.size
    by_cases hlt : j < m
    · have HQA := Lib.hid (hq.out.alloc (.cells #[.int .i64 1] 2))
      have HI1 : Hid (I64 1) := Lib.hid (by unfold I64; omega)
      have HLE : Hid ((List.replicate j (1 : Int)).length ≤ 1099511627776) := Lib.hid (by rw [List.length_replicate]; omega)
      have HBS : Hid (w.heap.size ≤ (wr.alloc (.cells #[.int .i64 1] 2)).heap.size) := Lib.hid (by rw [World.size_alloc]; have := HU1.out; omega)
      go_wp2_with (first | (at_builtin; refine wp_append_int2 rfl _ _ rfl w.heap.size _ (List.replicate j 1) rfl HQA.out _ 1 rfl (cell_new _ _ _ _) HI1.out HLE.out HBS.out ?_; intro v9 w9 ho9 _ _ hg9; rw [← List.replicate_succ'] at ho9; have HO9 := Lib.hid ho9; have HG9 := Lib.hid hg9; clear ho9 hg9))
      obtain ⟨A7, c7, rfl, hl7, hc7, -⟩ := HO9.out.ints.shape
      rw [List.length_replicate] at hl7
      go_roundw
      case rel => exact ⟨j + 1, by omega, HO9, Lib.hid (Chg.new (hu.out.alloc _) HG9.out (fun i hi h => by have h : w.heap.size ≤ i := h; omega))⟩
      case measure => simp; omega
    · have ejm : m = j := by omega
      subst ejm
      have p1 := Chg.cell hu.out H1.out id
      have p2 := Chg.cell ((Chg.refl Nowhere wr).alloc (.cells #[] 37)) p1 id
      have HK2 : Hid (Ints (wr.alloc (.cells #[] 37)) (fun _ => True) (.slice A1 m c1) (atS m rs 0)) := Lib.hid (by
        have h := (hq.out.ints.mono (T := fun _ => True) fun _ _ _ => trivial).up ((Chg.refl _ _).alloc (.cells #[] 37))
        have e0 : List.replicate m (1 : Int) = atS m rs 0 := by unfold atS; rw [Int.toNat_natCast]
        rw [e0] at h
        exact h)
      go_wp2
      clear p0 p1 p2
      have HUQ := Lib.hid (hu.out.alloc (.cells #[] 37))
      have HZQ : Hid (w.heap.size ≤ wr.heap.size) := Lib.hid HU1.out
      go_loopw [4, 5, 6] (fun q r i wr => ∃ (j : Nat), j ≤ rs.length ∧ i = .int .i64 j ∧ Hid (Ints wr (fun _ => True) q (atS m rs j)) ∧ Hid (OwnSS wr w.heap.size r (outC m rs j)) ∧ Hid (okC m rs j = true) ∧ Hid (Up w wr) ∧ Hid (w.heap.size ≤ wr.heap.size)) (fun _ _ i _ => rs.length - (intOf i).toNat)
      case atStart =>
        exact ⟨0, by omega, rfl, HK2, OwnSS.made _ _ HZQ.out, rfl, HUQ, Lib.hid (by have := HZQ.out; rw [World.size_alloc]; omega)⟩
      case round =>
        clear hq hu HU1 HUQ HZQ HK2
        obtain ⟨j, hj, rfl, hq, hr, hok, hu, hz⟩ := hrel
        have p0 := Chg.cell hu.out H0.out id
        have p1 := Chg.cell hu.out H1.out id
        obtain ⟨A5, c5, rfl, hl5, hc5, -⟩ := hr.out.ss.shape
        obtain ⟨A4, c4, rfl, hl4, hc4, -⟩ := hq.out.shape
        by_cases hlt : j < rs.length
        · obtain ⟨b, o, rfl, hc⟩ := (HR0.out.up hu.out).at_ hlt
          have hrow := hc j hlt
          obtain ⟨⟨d, cr, ks⟩, HRJ⟩ : ∃ r, Hid (rs[j] = r) := ⟨_, Lib.hid rfl⟩
          obtain ⟨st, HST⟩ : ∃ st, Hid (atS m rs j = st) := ⟨_, Lib.hid rfl⟩
          have HOK : Hid (okC m rs (j + 1) = okR st ⟨d, cr, ks⟩) := Lib.hid (by rw [okC_succ, hok.out, HST.out, rowI_eq hlt, HRJ.out]; rfl)
          have HNX : Hid (atS m rs (j + 1) = saL st ks) := Lib.hid (by unfold atS; rw [HST.out, rowI_eq hlt, HRJ.out])
          have HOU : Hid (outC m rs (j + 1) = outC m rs j ++ [saL st ks]) := Lib.hid (by rw [outC_succ, HST.out, rowI_eq hlt, HRJ.out])
          have HBAD : Hid (okR st ⟨d, cr, ks⟩ = false → okC m rs rs.length = false) := Lib.hid (fun h => okC_false hlt (by rw [HST.out, rowI_eq hlt, HRJ.out]; exact h))
          have HLN := Lib.hid (show (outC m rs j).length ≤ 1099511627 by rw [outC_length]; omega)
          rw [HRJ.out] at hrow
          rw [HST.out] at hq hl4 ⊢
          have HROW := Lib.hid hrow
          obtain ⟨A3, c3, f1, f2, f3, hi3, hl3, hc3⟩ := hrow.open_
          have HI3 := Lib.hid hi3
          clear hc hi3 f1 f2 hrow
          go_wp2_with fail
          with_reducible refine (l15Row_any _ _ _ _ _ HROW.out).mono ?_
          rintro e w3 ⟨rfl, rfl⟩
          cases hrb : rowB d cr ks with
          | false =>
            have HV := Lib.hid (HBAD.out (okR_1 hrb))
            go_wp2
            go_ret2
            rw [HV.out, resL_no HV.out]
            exact ⟨_, rfl, IntSS.nil _ _ 0 none (by omega), hu.out⟩
          | true =>
            have HRB := Lib.hid hrb
            clear hrb
            go_wp2_with fail
            with_reducible refine (sStacksAfter_any _ _ _ _ _ st ks hq.out HI3.out).mono ?_
            rintro e w4 ⟨v4, rfl, k4, g4⟩
            obtain ⟨A6, c6, rfl, hl6, hc6, -⟩ := k4.shape
            have K4 := Lib.hid k4
            have G4 := Lib.hid g4
            have p4 := Chg.cell g4 p1 id
            clear k4 g4 p0 p1 f3
            by_cases hs0 : saC st ks = 0
            rotate_left
            · have HV := Lib.hid (HBAD.out (okR_2 (r := ⟨d, cr, ks⟩) hs0))
              have t3 : (saC st ks == 0) = false := by simpa using hs0
              have t4 : (saC st ks != 0) = true := by simpa using hs0
              clear hs0
              go_wp2
              go_ret2
              rw [HV.out, resL_no HV.out]
              exact ⟨_, rfl, IntSS.nil _ _ 0 none (by omega), Chg.trans hu.out G4.out⟩
            have HS0 := Lib.hid hs0
            have t4 : (saC st ks != 0) = false := by simpa using hs0
            have HO3 := Lib.hid (okR_3 (r := ⟨d, cr, ks⟩) HRB.out HS0.out)
            have HFT := Lib.hid (saC_fits hs0).1
            have HSL := Lib.hid (saC_fits hs0).2
            have HL8 := Lib.hid (saC_le8 hs0)
            have HDR := Lib.hid (rowB_dir HRB.out).1
            have HQ := hq
            clear hs0
            rcases HDR.out with rfl | rfl
            · go_wp2_with fail
              with_reducible refine (l15ThinR_any _ _ _ _ _ _ st _ _ cr ks (HQ.out.up G4.out) (by rw [← HSL.out]; exact K4.out) (HROW.out.up G4.out) HFT.out HL8.out).mono ?_
              rintro e w5 ⟨rfl, g5⟩
              have G5 := Lib.hid (Chg.trans G4.out g5)
              have K5 := Lib.hid (K4.out.up g5)
              clear g5 p4
              cases htb : thinB 1 st ks with
              | false =>
                have HV := Lib.hid (HBAD.out (HO3.out.trans htb))
                clear htb
                go_wp2
                go_ret2
                rw [HV.out, resL_no HV.out]
                exact ⟨_, rfl, IntSS.nil _ _ 0 none (by omega), Chg.trans hu.out G5.out⟩
              | true =>
                have HV := Lib.hid (HOK.out.trans (HO3.out.trans htb))
                clear htb
                have UA := Lib.hid (G5.out.alloc (.cells #[.slice A6 (saL st ks).length c6] 37))
                have KA := Lib.hid ((K5.out.up ((Chg.refl Nowhere _).alloc (.cells #[.slice A6 (saL st ks).length c6] 37))).mono (T := New wr.heap.size (w5.alloc (.cells #[.slice A6 (saL st ks).length c6] 37)).heap.size) (fun b h1 hb => ⟨hb.1, h1⟩))
                go_wp2_with (first | (at_builtin; refine wp_append_ss2 rfl _ _ rfl w.heap.size wr _ (outC m rs j) rfl hr.out UA.out _ _ (saL st ks) rfl (cell_new _ _ _ _) KA.out HLN.out hz.out ?_; intro v9 w9 ho9 hg9; have HO9 := Lib.hid ho9; have HG9 := Lib.hid hg9; clear ho9 hg9))
                go_roundw
                case rel =>
                  have hj2 := (KA.out.keep HG9.out (fun b h1 h2 h9 => by have := h2.1; have := h9.2; omega)).mono (T := fun _ => True) (fun _ _ _ => trivial)
                  rw [← HOU.out] at HO9
                  exact ⟨j + 1, by omega, by go_num, Lib.hid (by rw [HNX.out]; exact hj2), HO9, HV, Lib.hid (Chg.new (Chg.trans hu.out UA.out) HG9.out (fun i hi h => by have h := h.1; omega)), Lib.hid (by have h1 := HG9.out.size; have h2 := UA.out.size; have h3 := hz.out; omega)⟩
                case measure => first | (simp [intOf]; done) | (simp [intOf]; omega)
            · go_wp2_with fail
              with_reducible refine (l15ThinL_any _ _ _ _ _ _ st _ _ cr ks (HQ.out.up G4.out) (by rw [← HSL.out]; exact K4.out) (HROW.out.up G4.out) HFT.out HL8.out).mono ?_
              rintro e w5 ⟨rfl, g5⟩
              have G5 := Lib.hid (Chg.trans G4.out g5)
              have K5 := Lib.hid (K4.out.up g5)
              clear g5 p4
              cases htb : thinB (-1) st ks with
              | false =>
                have HV := Lib.hid (HBAD.out (HO3.out.trans htb))
                clear htb
                go_wp2
                go_ret2
                rw [HV.out, resL_no HV.out]
                exact ⟨_, rfl, IntSS.nil _ _ 0 none (by omega), Chg.trans hu.out G5.out⟩
              | true =>
                have HV := Lib.hid (HOK.out.trans (HO3.out.trans htb))
                clear htb
                have UA := Lib.hid (G5.out.alloc (.cells #[.slice A6 (saL st ks).length c6] 37))
                have KA := Lib.hid ((K5.out.up ((Chg.refl Nowhere _).alloc (.cells #[.slice A6 (saL st ks).length c6] 37))).mono (T := New wr.heap.size (w5.alloc (.cells #[.slice A6 (saL st ks).length c6] 37)).heap.size) (fun b h1 hb => ⟨hb.1, h1⟩))
                go_wp2_with (first | (at_builtin; refine wp_append_ss2 rfl _ _ rfl w.heap.size wr _ (outC m rs j) rfl hr.out UA.out _ _ (saL st ks) rfl (cell_new _ _ _ _) KA.out HLN.out hz.out ?_; intro v9 w9 ho9 hg9; have HO9 := Lib.hid ho9; have HG9 := Lib.hid hg9; clear ho9 hg9))
                go_roundw
                case rel =>
                  have hj2 := (KA.out.keep HG9.out (fun b h1 h2 h9 => by have := h2.1; have := h9.2; omega)).mono (T := fun _ => True) (fun _ _ _ => trivial)
                  rw [← HOU.out] at HO9
                  exact ⟨j + 1, by omega, by go_num, Lib.hid (by rw [HNX.out]; exact hj2), HO9, HV, Lib.hid (Chg.new (Chg.trans hu.out UA.out) HG9.out (fun i hi h => by have h := h.1; omega)), Lib.hid (by have h1 := HG9.out.size; have h2 := UA.out.size; have h3 := hz.out; omega)⟩
                case measure => first | (simp [intOf]; done) | (simp [intOf]; omega)
        · obtain rfl : j = rs.length := by omega
          go_wp2
          go_ret2
          rw [hok.out, resL_yes hok.out]
          exact ⟨_, rfl, hr.out.ss, hu.out⟩
theorem l15Stacks_any (w : World) (S : Nat → Prop) (b o : Nat) (c : ChartM) (h : ChartAt w S b o c) :
    Calls Try.prog 209 #[.pointer (some ⟨b, o, none⟩)] w fun e w' => ∃ v', e = .returned (.tuple #[v', .bool (chartB c)]) ∧ IntSS w' (New w.heap.size w'.heap.size) v' (chartL c) ∧ Up w w' := by
  obtain ⟨A, k, h0, h1, hr, hlk, hkm, hI, hbl⟩ := h
  cases e1 : inB c.n 1 8 with
  | false =>
    have HV := Lib.hid (chart_no (c := c) (by unfold sizeB; rw [e1]; rfl))
    have HW := Lib.hid (fun w => by have := l00In_any c.n 1 8 w; rw [e1] at this; exact this)
    clear e1
    go_enter Try.func209, Try.ntmps209
    go_wp2_with fail
    refine (HW.out _).mono ?_
    rintro e w' ⟨rfl, rfl⟩
    go_wp2
    go_ret2
    rw [HV.out.1, HV.out.2]
    exact ⟨_, rfl, IntSS.nil _ _ 0 none (by omega), Chg.refl _ _⟩
  | true =>
    cases e2 : inB c.rs.length 1 8 with
    | false =>
      have HV := Lib.hid (chart_no (c := c) (by unfold sizeB; rw [e2, Bool.and_false]))
      have HW := Lib.hid (fun w => by have := l00In_any c.n 1 8 w; rw [e1] at this; exact this)
      have HW2 := Lib.hid (fun w => by have := l00In_any c.rs.length 1 8 w; rw [e2] at this; exact this)
      clear e1 e2
      go_enter Try.func209, Try.ntmps209
      go_wp2_with fail
      refine (HW.out _).mono ?_
      rintro e w' ⟨rfl, rfl⟩
      go_wp2_with fail
      refine (HW2.out _).mono ?_
      rintro e w' ⟨rfl, rfl⟩
      go_wp2
      go_ret2
      rw [HV.out.1, HV.out.2]
      exact ⟨_, rfl, IntSS.nil _ _ 0 none (by omega), Chg.refl _ _⟩
    | true =>
      have HSZ : sizeB c = true := by unfold sizeB; rw [e1, e2]; rfl
      have hn : 1 ≤ c.n ∧ c.n ≤ 8 := by unfold inB at e1; exact of_decide_eq_true e1
      have hl : 1 ≤ (c.rs.length : Int) ∧ (c.rs.length : Int) ≤ 8 := by unfold inB at e2; exact of_decide_eq_true e2
      have q1 : chartB c = okC c.n c.rs c.rs.length := by unfold chartB; rw [HSZ, Bool.true_and]
      have q2 : chartL c = resL c.n c.rs := by unfold chartL resL; rw [q1]
      rw [q1, q2]
      obtain ⟨m, hm⟩ : ∃ m : Nat, c.n = m := ⟨c.n.toNat, by omega⟩
      rw [hm] at hn h0 ⊢
      exact l15Stacks_yes w _ b o A k m c.rs h0 h1 hr hlk hkm (by omega) (by omega)
end Go.Proofs.Ytnjfhpgmogopnaa
set_option linter.unusedSimpArgs false
set_option linter.unusedVariables false
set_option maxRecDepth 100000
set_option maxHeartbeats 400000
namespace Go.Proofs.Ytnjfhpgmogopnaa
open Go.ChangeShapes Go.WideShapes Go.ChangeAt Go.RowKit
theorem ChartV.box {w : World} {S : Nat → Prop} {A : Option Addr} {k : Nat} {c : ChartM} (h : ChartV w S (.agg #[.int .i64 c.n, .slice A c.rs.length k]) c) : ChartAt (w.alloc (.cells #[.int .i64 c.n, .slice A c.rs.length k] 57)) S w.heap.size 0 c := by
  obtain ⟨s, h1, h2, h3⟩ := h
  obtain rfl : .slice A c.rs.length k = s := by simpa using h1
  obtain ⟨A', k', he, h4, h5, _⟩ := h2.shape
  obtain ⟨rfl, rfl⟩ : A = A' ∧ k = k' := by simpa using he
  exact ⟨A, k, cell_new _ _ _ _, cell_new _ _ _ _, h2.up ((Chg.refl _ _).alloc _), h4, h5, h3, by simp⟩
theorem ChartV.up {w w' : World} {S : Nat → Prop} {v : Value} {c : ChartM} (h : ChartV w S v c) (g : Up w w') : ChartV w' S v c :=
  let ⟨s, h1, h2, h3⟩ := h; ⟨s, h1, h2.up g, h3⟩
theorem ValidChart_any (w : World) (S : Nat → Prop) (v : Value) (c : ChartM) (h : ChartV w S v c) :
    Calls Try.prog 93 #[v] w fun e w' => e = .returned (.bool (chartB c)) ∧ Up w w' := by
  obtain ⟨A, k, rfl, -⟩ := h.shape
  have U0 := Lib.hid ((Chg.refl Nowhere w).alloc (.cells #[.int .i64 c.n, .slice A c.rs.length k] 57))
  have H := Lib.hid (h.up U0.out)
  clear h
  go_enter Try.func93, Try.ntmps93
  go_wp2_with fail
  with_reducible refine (allStacks_any _ _ _ c H.out).mono ?_
  rintro e w1 ⟨v1, rfl, k1, g1⟩
  have G1 := Lib.hid (Chg.trans U0.out g1)
  clear k1 g1
  go_wp2
  go_ret
  exact ⟨by simp, G1.out⟩
theorem l15Ok_any (w : World) (S : Nat → Prop) (b o : Nat) (c : ChartM) (h : ChartAt w S b o c) :
    Calls Try.prog 154 #[.pointer (some ⟨b, o, none⟩)] w fun e w' => e = .returned (.bool (chartB c)) ∧ Up w w' := by
  have H := Lib.hid h
  clear h
  go_enter Try.func154, Try.ntmps154
  go_wp2_with fail
  with_reducible refine (l15Stacks_any _ _ _ _ c H.out).mono ?_
  rintro e w1 ⟨v1, rfl, k1, g1⟩
  have G1 := Lib.hid g1
  clear k1 g1
  go_wp2
  go_ret
  exact ⟨by simp, G1.out⟩
theorem sValidChart_any (w : World) (S : Nat → Prop) (v : Value) (c : ChartM) (h : ChartV w S v c) :
    Calls Try.prog 90 #[v] w fun e w' => e = .returned (.bool (chartB c)) ∧ Up w w' := by
  obtain ⟨A, k, rfl, -⟩ := h.shape
  have U0 := Lib.hid ((Chg.refl Nowhere w).alloc (.cells #[.int .i64 c.n, .slice A c.rs.length k] 57))
  have H := Lib.hid h.box
  clear h
  go_enter Try.func90, Try.ntmps90
  go_wp2_with fail
  with_reducible refine (l15Ok_any _ _ _ _ c H.out).mono ?_
  rintro e w1 ⟨rfl, g1⟩
  have G1 := Lib.hid (Chg.trans U0.out g1)
  clear g1
  go_wp2
  go_ret
  exact ⟨by simp, G1.out⟩
/-- the widest of the stacks -/
def mxTo (n : Int) (xss : List (List Int)) : Nat → Int
  | 0 => n
  | j + 1 => if mxTo n xss j > ((xss.getD j []).length : Int) then mxTo n xss j else (xss.getD j []).length
theorem saL_len (st ks : List Int) : (saL st ks).length ≤ 8 := by
  by_cases h : saC st ks = 0
  · rw [(saC_fits h).2]; exact saC_le8 h
  · unfold saL; rw [if_neg h]; simp
theorem chartL_len (c : ChartM) : (∀ xs ∈ chartL c, xs.length ≤ 8) ∧ (chartL c).length ≤ c.rs.length := by
  unfold chartL
  split
  · refine ⟨fun xs hx => ?_, by rw [outC_length]; omega⟩
    unfold outC at hx
    obtain ⟨i, _, rfl⟩ := List.mem_map.1 hx
    exact saL_len _ _
  · simp
theorem mxTo_bd {n : Int} {xss : List (List Int)} (hn : 1 ≤ n ∧ n ≤ 8) (hx : ∀ xs ∈ xss, xs.length ≤ 8) : ∀ j, j ≤ xss.length → 1 ≤ mxTo n xss j ∧ mxTo n xss j ≤ 8
  | 0, _ => hn
  | j + 1, h => by
    have ih := mxTo_bd hn hx j (by omega)
    have h8 := hx _ (List.getElem_mem (show j < xss.length by omega))
    have e : xss.getD j [] = xss[j] := by simp [show j < xss.length by omega]
    unfold mxTo
    rw [e]
    split <;> omega
def widM (c : ChartM) : Int := 2 * mxTo c.n (chartL c) (chartL c).length + 1
theorem chart_size {c : ChartM} (h : chartB c = true) : (1 ≤ c.n ∧ c.n ≤ 8) ∧ c.rs.length ≤ 8 := by
  unfold chartB sizeB inB at h
  rw [Bool.and_eq_true, Bool.and_eq_true] at h
  have h1 := of_decide_eq_true h.1.1
  have h2 := of_decide_eq_true h.1.2
  exact ⟨h1, by omega⟩
def widV (c : ChartM) : Int := if chartB c then widM c else 0
def widC (c : ChartM) : Int := if chartB c then 0 else 1
theorem wid_no {c : ChartM} (h : chartB c = false) : widV c = 0 ∧ widC c = 1 := by unfold widV widC; rw [h]; exact ⟨rfl, rfl⟩
theorem wid_yes {c : ChartM} (h : chartB c = true) : widV c = widM c ∧ widC c = 0 := by unfold widV widC; rw [h]; exact ⟨rfl, rfl⟩
end Go.Proofs.Ytnjfhpgmogopnaa
set_option linter.unusedSimpArgs false
set_option linter.unusedVariables false
set_option maxRecDepth 100000
set_option maxHeartbeats 400000
namespace Go.Proofs.Ytnjfhpgmogopnaa
open Go.ChangeShapes Go.WideShapes Go.ChangeAt Go.RowKit
theorem RowAt.val {w : World} {S : Nat → Prop} {b o : Nat} {r : RowM} (h : RowAt w S b o r) : ∃ A c, w.cell? ⟨b, o, none⟩ = some (.int .i64 r.d) ∧ w.cell? ⟨b, o + 1, none⟩ = some (.int .i64 r.c) ∧ w.cell? ⟨b, o + 2, none⟩ = some (.slice A r.xs.length c) ∧ RowV w S (.agg #[.int .i64 r.d, .int .i64 r.c, .slice A r.xs.length c]) r := by
  obtain ⟨A, c, h1, h2, h3, h4, h5, h6, h7, h8⟩ := h
  exact ⟨A, c, h1, h2, h3, _, rfl, h4, h7⟩
/-- the numbers in the first rows -/
def cntR (rs : List RowM) (j : Nat) : Nat := ((rs.take j).map fun r => r.xs.length).sum
theorem cntR_succ {rs : List RowM} {j : Nat} (h : j < rs.length) : cntR rs (j + 1) = cntR rs j + rs[j].xs.length := by
  unfold cntR
  rw [List.take_succ_eq_append_getElem h, List.map_append, List.sum_append]
  rfl
theorem cntR_le {rs : List RowM} {i j : Nat} (h : i ≤ j) : cntR rs i ≤ cntR rs j := by
  unfold cntR
  have e : (rs.take j) = (rs.take j).take i ++ (rs.take j).drop i := (List.take_append_drop i _).symm
  rw [List.take_take, Nat.min_eq_left h] at e
  rw [e]
  simp
def cntRs (rs : List RowM) : Nat := rs.length + cntR rs rs.length
theorem szRowS_ok (w : World) (S : Nat → Prop) (v : Value) (rs : List RowM) (k : Int) (hk : 0 ≤ k ∧ k ≤ 1048576) (hl : (cntRs rs : Int) ≤ k) (h : RowsV w S v rs) :
    Calls Try.prog 89 #[v, .int .i64 k] w fun e w' => e = .returned (.int .i64 (k - cntRs rs)) ∧ Up w w' := by
  obtain ⟨A, c, rfl, hlc, hcm, -⟩ := h.shape
  have H := Lib.hid h
  have HC : Hid (cntRs rs = rs.length + cntR rs rs.length) := Lib.hid rfl
  have HL := Lib.hid hl
  clear h hl
  have hd : decide (k - (rs.length : Int) < 0) = false := decide_eq_false (by have := HL.out; have := HC.out; omega)
  go_enter Try.func89, Try.ntmps89
  go_wp2
  go_loopw [1, 5] (fun q i wr => ∃ (j : Nat), j ≤ rs.length ∧ i = .int .i64 j ∧ q = .int .i64 (k - rs.length - cntR rs j) ∧ Hid (0 ≤ k - rs.length - cntR rs j) ∧ Hid (Up w wr)) (fun _ i _ => rs.length - (intOf i).toNat)
  case atStart => exact ⟨0, by omega, rfl, by simp [cntR], Lib.hid (by have := HL.out; have := HC.out; simp [cntR]; omega), Chg.refl _ _⟩
  case round =>
    obtain ⟨j, hj, rfl, rfl, hp, hu⟩ := hrel
    by_cases hlt : j < rs.length
    · obtain ⟨b, o, rfl, hc⟩ := (H.out.up hu.out).at_ hlt
      obtain ⟨A3, c3, f1, f2, f3, hv⟩ := (hc j hlt).val
      have HV := Lib.hid hv
      have HS := Lib.hid (cntR_succ hlt)
      have HM := Lib.hid (cntR_le (rs := rs) (show j + 1 ≤ rs.length by omega))
      obtain ⟨q, hq⟩ : ∃ q, q = k - (rs.length : Int) - cntR rs j := ⟨_, rfl⟩
      rw [← hq] at hp ⊢
      have HQ := Lib.hid hq
      have HB : Hid (0 ≤ q ∧ q ≤ 1048576) := Lib.hid (by have := hp.out; omega)
      clear hc hv hq
      have HX : Hid ((rs[j].xs.length : Int) ≤ q) := Lib.hid (by have h1 := HS.out; have h2 := HM.out; have h3 := HL.out; have h4 := HC.out; have h5 := HQ.out; omega)
      go_wp2_with fail
      with_reducible refine (szRow_ok _ _ _ _ _ HB.out HX.out HV.out).mono ?_
      rintro e w1 ⟨rfl, g1⟩
      have G1 := Lib.hid (Chg.trans hu.out g1)
      have hd2 : decide (q - (rs[j].xs.length : Int) < 0) = false := decide_eq_false (by have := HX.out; omega)
      clear f1 f2 f3 g1
      go_wp2
      go_roundw
      case rel => exact ⟨j + 1, by omega, by go_num, by rw [HS.out, HQ.out]; congr 1; omega, Lib.hid (by have h1 := HS.out; have h2 := HQ.out; have h3 := HX.out; omega), G1.out⟩
      case measure => first | (simp [intOf]; done) | (simp [intOf]; omega)
    · obtain rfl : j = rs.length := by omega
      go_wp2
      go_ret
      exact ⟨ret_int (by rw [HC.out]; omega), hu.out⟩
theorem szRowS_no (w : World) (S : Nat → Prop) (v : Value) (rs : List RowM) (k : Int) (hk : 0 ≤ k ∧ k ≤ 1048576) (hl : k < (cntRs rs : Int)) (h : RowsV w S v rs) :
    Calls Try.prog 89 #[v, .int .i64 k] w fun e w' => e = .returned (.int .i64 (-1)) ∧ Up w w' := by
  obtain ⟨A, c, rfl, hlc, hcm, -⟩ := h.shape
  have H := Lib.hid h
  have HC : Hid (cntRs rs = rs.length + cntR rs rs.length) := Lib.hid rfl
  have HL := Lib.hid hl
  clear h hl
  by_cases h0 : k < (rs.length : Int)
  · have hd : decide (k - (rs.length : Int) < 0) = true := decide_eq_true (by omega)
    go_enter Try.func89, Try.ntmps89
    go_wp2
    go_ret
    exact ⟨rfl, Chg.refl _ _⟩
  have hd : decide (k - (rs.length : Int) < 0) = false := decide_eq_false (by have := HL.out; have := HC.out; omega)
  go_enter Try.func89, Try.ntmps89
  go_wp2
  go_loopw [1, 5] (fun q i wr => ∃ (j : Nat), j ≤ rs.length ∧ i = .int .i64 j ∧ q = .int .i64 (k - rs.length - cntR rs j) ∧ Hid (0 ≤ k - rs.length - cntR rs j) ∧ Hid (Up w wr)) (fun _ i _ => rs.length - (intOf i).toNat)
  case atStart => exact ⟨0, by omega, rfl, by simp [cntR], Lib.hid (by have := HL.out; have := HC.out; simp [cntR]; omega), Chg.refl _ _⟩
  case round =>
    obtain ⟨j, hj, rfl, rfl, hp, hu⟩ := hrel
    by_cases hlt : j < rs.length
    · obtain ⟨b, o, rfl, hc⟩ := (H.out.up hu.out).at_ hlt
      obtain ⟨A3, c3, f1, f2, f3, hv⟩ := (hc j hlt).val
      have HV := Lib.hid hv
      have HS := Lib.hid (cntR_succ hlt)
      have HM := Lib.hid (cntR_le (rs := rs) (show j + 1 ≤ rs.length by omega))
      obtain ⟨q, hq⟩ : ∃ q, q = k - (rs.length : Int) - cntR rs j := ⟨_, rfl⟩
      rw [← hq] at hp ⊢
      have HQ := Lib.hid hq
      have HB : Hid (0 ≤ q ∧ q ≤ 1048576) := Lib.hid (by have := hp.out; omega)
      clear hc hv hq
      by_cases hx : (rs[j].xs.length : Int) ≤ q
      rotate_left
      · have HX : Hid (q < (rs[j].xs.length : Int)) := Lib.hid (by omega)
        clear hx
        go_wp2_with fail
        with_reducible refine (szRow_no _ _ _ _ _ HB.out HX.out HV.out).mono ?_
        rintro e w1 ⟨rfl, g1⟩
        have G1 := Lib.hid (Chg.trans hu.out g1)
        have hd2 : decide ((-1 : Int) < 0) = true := rfl
        clear f1 f2 f3 g1
        go_wp2
        go_ret
        exact ⟨by simp, G1.out⟩
      have HX := Lib.hid hx
      clear hx
      go_wp2_with fail
      with_reducible refine (szRow_ok _ _ _ _ _ HB.out HX.out HV.out).mono ?_
      rintro e w1 ⟨rfl, g1⟩
      have G1 := Lib.hid (Chg.trans hu.out g1)
      have hd2 : decide (q - (rs[j].xs.length : Int) < 0) = false := decide_eq_false (by have := HX.out; omega)
      clear f1 f2 f3 g1
      go_wp2
      go_roundw
      case rel => exact ⟨j + 1, by omega, by go_num, by rw [HS.out, HQ.out]; congr 1; omega, Lib.hid (by have h1 := HS.out; have h2 := HQ.out; have h3 := HX.out; omega), G1.out⟩
      case measure => first | (simp [intOf]; done) | (simp [intOf]; omega)
    · obtain rfl : j = rs.length := by omega
      exact absurd hp.out (by have := HL.out; have := HC.out; omega)
end Go.Proofs.Ytnjfhpgmogopnaa
set_option linter.unusedSimpArgs false
set_option linter.unusedVariables false
set_option maxRecDepth 100000
set_option maxHeartbeats 1000000
namespace Go.Proofs.Ytnjfhpgmogopnaa
open Go.ChangeShapes Go.WideShapes Go.ChangeAt Go.RowKit
theorem Copying.grow {w : World} {b m n j : Nat} {cs : List Value} (h : Copying w b m n j cs) (hl : cs.length = j * m) (vs : List Value) : Copying w b m n j (cs ++ vs) := fun t ht => by
  obtain ⟨h1, h2, h3⟩ := h t ht
  refine ⟨h1, h2, fun hlt => ?_⟩
  rw [h3 hlt, List.getElem?_append_left (by omega)]
theorem Chg.setCellsAt {S : Nat → Prop} {a : World} {b : Nat} (hb : S b) : ∀ (vs : List Value) (o : Nat) {w : World}, Chg S a w → Chg S a (w.setCells b o vs)
  | [], _, _, h => h
  | v :: r, o, _, h => Chg.setCellsAt hb r (o + 1) (h.setCell (.inl hb) v)
/-- the rows that were copied so far -/
def RowsIn (w : World) (g : Nat) (cs : List Value) (rs : List RowM) (j : Nat) : Prop :=
  ∀ i (hi : i < rs.length), i < j → ∃ A c, cs[i * 3]? = some (.int .i64 rs[i].d) ∧ cs[i * 3 + 1]? = some (.int .i64 rs[i].c) ∧ cs[i * 3 + 2]? = some (.slice A rs[i].xs.length c) ∧ Ints w (fun b => g < b) (.slice A rs[i].xs.length c) rs[i].xs ∧ rs[i].xs.length ≤ c ∧ c ≤ 9223372036854775807
theorem RowsIn.keep {S : Nat → Prop} {w w' : World} {g : Nat} {cs : List Value} {rs : List RowM} {j : Nat} (h : RowsIn w g cs rs j) (k : Chg S w w') (hS : ∀ b, b < w.heap.size → g < b → ¬ S b) : RowsIn w' g cs rs j := fun i hi hij =>
  let ⟨A, c, h1, h2, h3, h4, h5⟩ := h i hi hij; ⟨A, c, h1, h2, h3, h4.keep k hS, h5⟩
theorem RowsIn.next {w : World} {g : Nat} {cs : List Value} {rs : List RowM} {j : Nat} (h : RowsIn w g cs rs j) (hl : cs.length = j * 3) (hj : j < rs.length) {A : Option Addr} {c : Nat} (hi : Ints w (fun b => g < b) (.slice A rs[j].xs.length c) rs[j].xs) (h1 : rs[j].xs.length ≤ c) (h2 : c ≤ 9223372036854775807) :
    RowsIn w g (cs ++ [.int .i64 rs[j].d, .int .i64 rs[j].c, .slice A rs[j].xs.length c]) rs (j + 1) := fun i hi' hij => by
  by_cases he : i < j
  · obtain ⟨A', c', k1, k2, k3, k4⟩ := h i hi' he
    exact ⟨A', c', by rw [List.getElem?_append_left (by omega)]; exact k1, by rw [List.getElem?_append_left (by omega)]; exact k2, by rw [List.getElem?_append_left (by omega)]; exact k3, k4⟩
  · obtain rfl : i = j := by omega
    exact ⟨A, c, by rw [List.getElem?_append_right (by omega), hl]; simp, by rw [List.getElem?_append_right (by omega), hl]; simp, by rw [List.getElem?_append_right (by omega), hl]; simp, hi, h1, h2⟩
theorem infoRows : (Try.prog.info? 87).map (fun i => (i.zero, i.size, i.bytes)) = some (some (.agg #[.int .i64 0, .int .i64 0, .slice none 0 0]), 3, 40) := by kernel_rfl
theorem toRowS_any (w : World) (S : Nat → Prop) (v : Value) (rs : List RowM) (hb : cntRs rs ≤ 1048576) (h : RowsV w S v rs) :
    Calls Try.prog 92 #[v] w fun e w' => ∃ u, e = .returned u ∧ RowsV w' (New w.heap.size w'.heap.size) u rs ∧ Up w w' := by
  obtain ⟨A, c, rfl, hlc, hcm, -⟩ := h.shape
  have H := Lib.hid h
  have hbl : rs.length ≤ 1048576 := by unfold cntRs at hb; omega
  have HB := Lib.hid hb
  clear h hb
  obtain ⟨i0, hi, hz0, hz1, hz2⟩ := info_parts infoRows
  have hmk : ∀ u : World, (Instr.makeSlice 55 (.int .i64 (rs.length : Int)) (.int .i64 (rs.length : Int))).run Try.prog u =
      .ok (.slice (some ⟨u.heap.size, 0, none⟩) rs.length rs.length) (u.alloc (.cells (madeCells #[Value.int .i64 0, Value.int .i64 0, Value.slice none 0 0] (rs.length * 3)) 87)) := fun u => by
    have h := run_make (P := Try.prog) u 55 87 i0 (.agg #[.int .i64 0, .int .i64 0, .slice none 0 0]) Try.underlying55 hi hz0 .i64 .i64 (rs.length : Int) (rs.length : Int) (by omega) (Int.le_refl _) (by rw [hz2]; omega) (by omega)
    simpa [hz1, Value.cells] using h
  go_enter Try.func92, Try.ntmps92
  go_wp2
  have Hi := Lib.hid hmk
  clear hmk hi hz0 hz1 hz2
  go_loopw [4] (fun i wr => ∃ (j : Nat) (cs : List Value), j ≤ rs.length ∧ i = .int .i64 j ∧ Hid (Up w wr) ∧ w.heap.size < wr.heap.size ∧ Hid (cs.length = j * 3) ∧ Hid (Copying wr w.heap.size 3 rs.length j cs) ∧ Hid (RowsIn wr w.heap.size cs rs j)) (fun i _ => rs.length - (intOf i).toNat)
  case atStart => exact ⟨0, [], by omega, rfl, (Chg.refl _ _).alloc _, by simp, Lib.hid rfl, Copying.start _ _ _ _ _ _ (by simp [size_madeCells]), Lib.hid (fun i hi h => by omega)⟩
  case round =>
    obtain ⟨j, cs, hj, rfl, hg, hsz, hcl, hcs, hin⟩ := hrel
    by_cases hlt : j < rs.length
    · obtain ⟨b, o, rfl, hc⟩ := (H.out.up hg.out).at_ hlt
      obtain ⟨A3, c3, f1, f2, f3, hv⟩ := (hc j hlt).val
      have HV := Lib.hid hv
      have HBJ : Hid (cntInts rs[j].xs ≤ 8388608) := Lib.hid (by have h1 := cntR_succ hlt; have h2 := cntR_le (rs := rs) (show j + 1 ≤ rs.length by omega); have h3 := HB.out; unfold cntRs at h3; unfold cntInts; omega)
      clear hc hv
      go_wp2_with fail
      with_reducible refine (toRow_any _ _ _ rs[j] HBJ.out HV.out).mono ?_
      rintro e w2 ⟨u, rfl, k2, g2⟩
      obtain ⟨A4, c4, rfl, k4, hl4, hc4, -⟩ := k2.shape
      have hcs := Lib.hid (Copying.up hcs.out g2)
      have hin := Lib.hid (hin.out.keep g2 (fun _ _ _ h => h))
      have HG := Lib.hid (Chg.trans hg.out g2)
      have K4 := Lib.hid (k4.mono (T := fun b => w.heap.size < b) (fun b _ hb => by have := hb.1; omega))
      have hsz2 := Nat.lt_of_lt_of_le hsz g2.size
      clear g2 k2 k4 f1 f2 f3
      obtain ⟨u0, x0, q0⟩ := hcs.out.cell hlt 0 (by omega)
      obtain ⟨u1, x1, q1⟩ := hcs.out.cell hlt 1 (by omega)
      obtain ⟨u2, x2, q2⟩ := hcs.out.cell hlt 2 (by omega)
      rw [Nat.add_zero] at x0 q0
      go_wp2
      go_roundw
      case rel =>
        refine ⟨j + 1, cs ++ [.int .i64 rs[j].d, .int .i64 rs[j].c, .slice A4 rs[j].xs.length c4], by omega, by go_num, Chg.setCellsNew (Nat.le_refl _) [.int .i64 rs[j].d, .int .i64 rs[j].c, .slice A4 rs[j].xs.length c4] (j * 3) HG.out, ?_, Lib.hid (by rw [List.length_append, hcl.out]; simp; omega), Copying.next (Copying.grow hcs.out hcl.out _) hlt (vs := [.int .i64 rs[j].d, .int .i64 rs[j].c, .slice A4 rs[j].xs.length c4]) rfl (fun i hi => ?_), Lib.hid ((RowsIn.next hin.out hcl.out hlt K4.out hl4 hc4).keep (Chg.setCellsAt (S := fun b => b = w.heap.size) rfl [.int .i64 rs[j].d, .int .i64 rs[j].c, .slice A4 rs[j].xs.length c4] (j * 3) (Chg.refl _ _)) (fun b _ h1 h2 => by have h2 : b = w.heap.size := h2; omega))⟩
        · simpa [World.setCell] using hsz2
        · have e := hcl.out
          rw [List.getElem?_append_right (by omega), e, Nat.add_sub_cancel_left]
          exact List.getElem?_eq_getElem hi
      case measure => first | (simp [intOf]; done) | (simp [intOf]; omega)
    · obtain rfl : j = rs.length := by omega
      go_wp2
      go_ret
      refine ⟨_, rfl, ⟨_, _, rfl, Nat.le_refl _, by omega, fun hp => ⟨w.heap.size, 0, rfl, ⟨Nat.le_refl _, hsz⟩, fun i hi => ?_⟩, by simp⟩, hg.out⟩
      obtain ⟨b, o, -, hc⟩ := H.out.at_ hi
      obtain ⟨-, -, -, -, -, -, -, -, h7, -⟩ := hc i hi
      obtain ⟨A', c', k1, k2, k3, k4, k5, k6⟩ := hin.out i hi hi
      have e0 := ((hcs.out (i * 3) (by omega)).2.2 (by omega)).trans k1
      have e1 := ((hcs.out (i * 3 + 1) (by omega)).2.2 (by omega)).trans k2
      have e2 := ((hcs.out (i * 3 + 2) (by omega)).2.2 (by omega)).trans k3
      rw [Nat.zero_add]
      exact ⟨A', c', e0, e1, e2, k4.mono (fun b h1 h2 => ⟨by omega, h1⟩), k5, k6, h7, hsz⟩
end Go.Proofs.Ytnjfhpgmogopnaa
set_option linter.unusedSimpArgs false
set_option linter.unusedVariables false
set_option maxRecDepth 100000
set_option maxHeartbeats 1000000
namespace Go.Proofs.Ytnjfhpgmogopnaa
open Go.ChangeShapes Go.WideShapes Go.ChangeAt Go.RowKit
theorem openChart {w : World} {S : Nat → Prop} {v : Value} {b : ChartM} (h : ChartV w S v b) : ∃ A c, v = .agg #[.int .i64 b.n, .slice A b.rs.length c] ∧ RowsV w S (.slice A b.rs.length c) b.rs ∧ b.rs.length ≤ c ∧ c ≤ 9223372036854775807 := by
  obtain ⟨s, h1, h2, h3⟩ := h
  obtain ⟨A, c, rfl, h5, h6, h7⟩ := h2.shape
  exact ⟨A, c, h1, h2, h5, h6⟩
theorem szChart_ok (w : World) (S : Nat → Prop) (v : Value) (b : ChartM) (k : Int) (hk : 0 ≤ k ∧ k ≤ 1048576) (hl : (cntRs b.rs : Int) ≤ k) (h : ChartV w S v b) :
    Calls Try.prog 21 #[v, .int .i64 k] w fun e w' => e = .returned (.int .i64 (k - cntRs b.rs)) ∧ Up w w' := by
  obtain ⟨A, c, rfl, h4, h5, h6⟩ := openChart h
  have U0 := Lib.hid ((Chg.refl Nowhere w).alloc (.cells #[.int .i64 b.n, .slice A b.rs.length c] 51))
  have H := Lib.hid (h4.up U0.out)
  have q1 := (show (w.alloc (.cells #[.int .i64 b.n, .slice A b.rs.length c] 51)).cell? ⟨w.heap.size, 1, none⟩ = some (.slice A b.rs.length c) from cell_new _ _ _ _)
  have hd : decide (k - (cntRs b.rs : Int) < 0) = false := decide_eq_false (by omega)
  clear h h4
  go_enter Try.func21, Try.ntmps21
  go_wp2_with fail
  with_reducible refine (szRowS_ok _ S _ b.rs k hk hl H.out).mono ?_
  rintro e w1 ⟨rfl, g1⟩
  have G1 := Lib.hid (Chg.trans U0.out g1)
  clear g1 q1
  go_wp2
  go_ret
  exact ⟨rfl, G1.out⟩
theorem szChart_no (w : World) (S : Nat → Prop) (v : Value) (b : ChartM) (k : Int) (hk : 0 ≤ k ∧ k ≤ 1048576) (hl : k < (cntRs b.rs : Int)) (h : ChartV w S v b) :
    Calls Try.prog 21 #[v, .int .i64 k] w fun e w' => e = .returned (.int .i64 (-1)) ∧ Up w w' := by
  obtain ⟨A, c, rfl, h4, h5, h6⟩ := openChart h
  have U0 := Lib.hid ((Chg.refl Nowhere w).alloc (.cells #[.int .i64 b.n, .slice A b.rs.length c] 51))
  have H := Lib.hid (h4.up U0.out)
  have q1 := (show (w.alloc (.cells #[.int .i64 b.n, .slice A b.rs.length c] 51)).cell? ⟨w.heap.size, 1, none⟩ = some (.slice A b.rs.length c) from cell_new _ _ _ _)
  have hd : decide ((-1 : Int) < 0) = true := rfl
  clear h h4
  go_enter Try.func21, Try.ntmps21
  go_wp2_with fail
  with_reducible refine (szRowS_no _ S _ b.rs k hk hl H.out).mono ?_
  rintro e w1 ⟨rfl, g1⟩
  have G1 := Lib.hid (Chg.trans U0.out g1)
  clear g1 q1
  go_wp2
  go_ret
  exact ⟨rfl, G1.out⟩
theorem toChart_any (w : World) (S : Nat → Prop) (v : Value) (b : ChartM) (hb : cntRs b.rs ≤ 1048576) (h : ChartV w S v b) :
    Calls Try.prog 23 #[v] w fun e w' => ∃ u, e = .returned u ∧ ChartV w' (New w.heap.size w'.heap.size) u b ∧ Up w w' := by
  obtain ⟨A, c, rfl, h4, h5, h6⟩ := openChart h
  have I0 := Lib.hid h4
  have U0 := Lib.hid (Chg.refl Nowhere w)
  obtain ⟨_, _, _, hi1⟩ := h
  have HI1 := Lib.hid hi1
  clear h4 hi1
  have U_1 := Lib.hid (Chg.trans U0.out ((Chg.refl Nowhere w).alloc (.cells #[.int .i64 b.n, .slice A b.rs.length c] 51)))
  clear U0
  have I_2 := Lib.hid (I0.out.up ((Chg.refl Nowhere w).alloc (.cells #[.int .i64 b.n, .slice A b.rs.length c] 51)))
  clear I0
  have q0_3 := (show (w.alloc (.cells #[.int .i64 b.n, .slice A b.rs.length c] 51)).cell? ⟨w.heap.size, 0, none⟩ = some (.int .i64 b.n) from cell_new _ _ _ _)
  have q1_4 := (show (w.alloc (.cells #[.int .i64 b.n, .slice A b.rs.length c] 51)).cell? ⟨w.heap.size, 1, none⟩ = some (.slice A b.rs.length c) from cell_new _ _ _ _)
  have hbx5 : w.heap.size < (w.alloc (.cells #[.int .i64 b.n, .slice A b.rs.length c] 51)).heap.size := by simp
  go_enter Try.func23, Try.ntmps23
  go_wp2_with fail
  refine (toRowS_any _ S _ b.rs hb (I_2.out.up (by repeat (first | exact Chg.refl _ _ | apply Chg.drew | apply Chg.drewN | refine Chg.alloc ?_ _)))).mono ?_
  rintro e w6 ⟨v6, rfl, k1, g1⟩
  obtain ⟨A6, c6, rfl, hl6, hc6, -⟩ := k1.shape
  have K1 := Lib.hid k1
  clear k1
  have G1 := Lib.hid g1
  have hz6 := G1.out.size
  clear g1
  have U_7 := Lib.hid (Chg.trans U_1.out (Chg.trans (by repeat (first | exact Chg.refl _ _ | apply Chg.drew | apply Chg.drewN | refine Chg.alloc ?_ _)) G1.out))
  clear U_1
  have I_8 := Lib.hid (I_2.out.up (Chg.trans (by repeat (first | exact Chg.refl _ _ | apply Chg.drew | apply Chg.drewN | refine Chg.alloc ?_ _)) G1.out))
  clear I_2
  have q0_9 := Chg.cell (Chg.trans (by repeat (first | exact Chg.refl _ _ | apply Chg.drew | apply Chg.drewN | refine Chg.alloc ?_ _)) G1.out) q0_3 id
  clear q0_3
  have q1_10 := Chg.cell (Chg.trans (by repeat (first | exact Chg.refl _ _ | apply Chg.drew | apply Chg.drewN | refine Chg.alloc ?_ _)) G1.out) q1_4 id
  clear q1_4
  obtain ⟨x0_11c, x0_11f⟩ := (show CellF w6 ⟨w.heap.size + 1 + 1, 0, none⟩ (.int .i64 b.n) from CellF.up G1.out (by repeat (first | ((refine cellF_at ?_ rfl); (simp; done)) | refine CellF.up ((Chg.refl _ _).alloc _) ?_)))
  obtain ⟨x1_12c, x1_12f⟩ := (show CellF w6 ⟨w.heap.size + 1 + 1, 1, none⟩ (.slice none 0 0) from CellF.up G1.out (by repeat (first | ((refine cellF_at ?_ rfl); (simp; done)) | refine CellF.up ((Chg.refl _ _).alloc _) ?_)))
  obtain ⟨y0_13c, y0_13f⟩ := (show CellF w6 ⟨w.heap.size + 1, 0, none⟩ (.int .i64 0) from CellF.up G1.out (by repeat (first | ((refine cellF_at ?_ rfl); (simp; done)) | refine CellF.up ((Chg.refl _ _).alloc _) ?_)))
  obtain ⟨y1_14c, y1_14f⟩ := (show CellF w6 ⟨w.heap.size + 1, 1, none⟩ (.slice none 0 0) from CellF.up G1.out (by repeat (first | ((refine cellF_at ?_ rfl); (simp; done)) | refine CellF.up ((Chg.refl _ _).alloc _) ?_)))
  clear G1
  have K_15 := Lib.hid (K1.out)
  clear K1
  go_wp2
  have HC := Lib.hid (show Chg (fun b => b = w.heap.size + 1 ∨ b = w.heap.size + 1 + 1) w6 _ from Chg.setCell (Chg.setCell (Chg.setCell (Chg.refl _ _) (p := ⟨w.heap.size + 1 + 1, 1, none⟩) (.inl (.inr rfl)) (.slice A6 b.rs.length c6)) (p := ⟨w.heap.size + 1, 0, none⟩) (.inl (.inl rfl)) (.int .i64 b.n)) (p := ⟨w.heap.size + 1, 1, none⟩) (.inl (.inl rfl)) (.slice A6 b.rs.length c6))
  exact bodyPost_ret (v := .agg #[.int .i64 b.n, .slice A6 b.rs.length c6]) (by simp [results, Try.results23, go_sem, y0_13c, y1_14c]) rfl ⟨_, rfl, ⟨_, rfl, (K_15.out.keep HC.out (fun b _ hb hd => by have := hb.1; simp at this; omega)).mono (fun b _ hb => ⟨by have := hb.1; simp at this; omega, Nat.lt_of_lt_of_le hb.2 HC.out.size⟩), HI1.out⟩, Chg.new U_7.out HC.out (fun i hi hd => by omega)⟩
end Go.Proofs.Ytnjfhpgmogopnaa
set_option linter.unusedSimpArgs false
set_option linter.unusedVariables false
set_option maxRecDepth 100000
set_option maxHeartbeats 400000
namespace Go.Proofs.Ytnjfhpgmogopnaa
open Go.ChangeShapes Go.WideShapes Go.ChangeAt Go.RowKit
theorem eqRowS_same (w : World) (S T : Nat → Prop) (v u : Value) (rs : List RowM) (h : RowsV w S v rs) (h2 : RowsV w T u rs) :
    Calls Try.prog 95 #[v, u] w fun e w' => e = .returned (.bool true) ∧ Up w w' := by
  obtain ⟨A, c, rfl, hlc, hcm, -⟩ := h.shape
  obtain ⟨A2, c2, rfl, hlc2, hcm2, -⟩ := h2.shape
  have H := Lib.hid h
  have H2 := Lib.hid h2
  clear h h2
  go_enter Try.func95, Try.ntmps95
  go_wp2
  go_loopw [5] (fun i wr => ∃ (j : Nat), j ≤ rs.length ∧ i = .int .i64 j ∧ Hid (Up w wr)) (fun i _ => rs.length - (intOf i).toNat)
  case atStart => exact ⟨0, by omega, rfl, Chg.refl _ _⟩
  case round =>
    obtain ⟨j, hj, rfl, hu⟩ := hrel
    by_cases hlt : j < rs.length
    · obtain ⟨b, o, rfl, hc⟩ := (H.out.up hu.out).at_ hlt
      obtain ⟨b2, o2, rfl, hc2⟩ := (H2.out.up hu.out).at_ hlt
      obtain ⟨A3, c3, f1, f2, f3, hv⟩ := (hc j hlt).val
      obtain ⟨A4, c4, e1, e2, e3, hv2⟩ := (hc2 j hlt).val
      have HV := Lib.hid hv
      have HV2 := Lib.hid hv2
      clear hc hv hc2 hv2
      go_wp2
      have qf1 := up_cell f1
      have qf2 := up_cell f2
      have qf3 := up_cell f3
      have qe1 := up_cell e1
      have qe2 := up_cell e2
      have qe3 := up_cell e3
      clear f1 f2 f3 e1 e2 e3
      refine wp_region_up (by kernel_rfl) (by kernel_rfl) ?_
      repeat (go_big_quiet_step (first | (go_at_call 160; with_reducible exact calls_up (eqRow_same _ _ _ _ _ _ (HV.out.up (UpOf.up _)) (HV2.out.up (UpOf.up _))))))
      refine wpQuiet_nil ?_
      rintro _ ⟨u, rfl⟩
      go_wp2
      go_roundw
      case rel => exact ⟨j + 1, by omega, by go_num, Lib.hid (Chg.trans hu.out u.up)⟩
      case measure => first | (simp [intOf]; done) | (simp [intOf]; omega)
    · obtain rfl : j = rs.length := by omega
      go_wp2
      go_ret
      exact ⟨rfl, hu.out⟩
theorem eqChart_same (w : World) (S T : Nat → Prop) (v u : Value) (b : ChartM) (h : ChartV w S v b) (h2 : ChartV w T u b) :
    Calls Try.prog 26 #[v, u] w fun e w' => e = .returned (.bool true) ∧ Up w w' := by
  obtain ⟨A, c, rfl, h4, h5, h6⟩ := openChart h
  obtain ⟨A2, c2, rfl, h24, h25, h26⟩ := openChart h2
  have I0 := Lib.hid h4
  have J0 := Lib.hid h24
  have U0 := Lib.hid (Chg.refl Nowhere w)
  clear h4 h24 h h2
  have e1 : (b.n != b.n) = false := by simp
  have U_1 := Lib.hid (Chg.trans U0.out ((Chg.refl Nowhere w).alloc (.cells #[.int .i64 b.n, .slice A b.rs.length c] 57)))
  clear U0
  have I_2 := Lib.hid (I0.out.up ((Chg.refl Nowhere w).alloc (.cells #[.int .i64 b.n, .slice A b.rs.length c] 57)))
  clear I0
  have J_3 := Lib.hid (J0.out.up ((Chg.refl Nowhere w).alloc (.cells #[.int .i64 b.n, .slice A b.rs.length c] 57)))
  clear J0
  have q0_4 := (show (w.alloc (.cells #[.int .i64 b.n, .slice A b.rs.length c] 57)).cell? ⟨w.heap.size, 0, none⟩ = some (.int .i64 b.n) from cell_new _ _ _ _)
  have q1_5 := (show (w.alloc (.cells #[.int .i64 b.n, .slice A b.rs.length c] 57)).cell? ⟨w.heap.size, 1, none⟩ = some (.slice A b.rs.length c) from cell_new _ _ _ _)
  have hbx6 : w.heap.size < (w.alloc (.cells #[.int .i64 b.n, .slice A b.rs.length c] 57)).heap.size := by simp
  have U_7 := Lib.hid (Chg.trans U_1.out ((Chg.refl Nowhere (w.alloc (.cells #[.int .i64 b.n, .slice A b.rs.length c] 57))).alloc (.cells #[.int .i64 b.n, .slice A2 b.rs.length c2] 57)))
  clear U_1
  have I_8 := Lib.hid (I_2.out.up ((Chg.refl Nowhere (w.alloc (.cells #[.int .i64 b.n, .slice A b.rs.length c] 57))).alloc (.cells #[.int .i64 b.n, .slice A2 b.rs.length c2] 57)))
  clear I_2
  have J_9 := Lib.hid (J_3.out.up ((Chg.refl Nowhere (w.alloc (.cells #[.int .i64 b.n, .slice A b.rs.length c] 57))).alloc (.cells #[.int .i64 b.n, .slice A2 b.rs.length c2] 57)))
  clear J_3
  have q0_10 := Chg.cell ((Chg.refl Nowhere (w.alloc (.cells #[.int .i64 b.n, .slice A b.rs.length c] 57))).alloc (.cells #[.int .i64 b.n, .slice A2 b.rs.length c2] 57)) q0_4 id
  clear q0_4
  have q1_11 := Chg.cell ((Chg.refl Nowhere (w.alloc (.cells #[.int .i64 b.n, .slice A b.rs.length c] 57))).alloc (.cells #[.int .i64 b.n, .slice A2 b.rs.length c2] 57)) q1_5 id
  clear q1_5
  have p0_12 := (show ((w.alloc (.cells #[.int .i64 b.n, .slice A b.rs.length c] 57)).alloc (.cells #[.int .i64 b.n, .slice A2 b.rs.length c2] 57)).cell? ⟨(w.alloc (.cells #[.int .i64 b.n, .slice A b.rs.length c] 57)).heap.size, 0, none⟩ = some (.int .i64 b.n) from cell_new _ _ _ _)
  have p1_13 := (show ((w.alloc (.cells #[.int .i64 b.n, .slice A b.rs.length c] 57)).alloc (.cells #[.int .i64 b.n, .slice A2 b.rs.length c2] 57)).cell? ⟨(w.alloc (.cells #[.int .i64 b.n, .slice A b.rs.length c] 57)).heap.size, 1, none⟩ = some (.slice A2 b.rs.length c2) from cell_new _ _ _ _)
  have hbx14 : (w.alloc (.cells #[.int .i64 b.n, .slice A b.rs.length c] 57)).heap.size < ((w.alloc (.cells #[.int .i64 b.n, .slice A b.rs.length c] 57)).alloc (.cells #[.int .i64 b.n, .slice A2 b.rs.length c2] 57)).heap.size := by simp
  go_enter Try.func26, Try.ntmps26
  go_wp2_with fail
  refine (eqRowS_same _ S T _ _ b.rs (I_8.out.up (by repeat (first | exact Chg.refl _ _ | apply Chg.drew | apply Chg.drewN | refine Chg.alloc ?_ _))) (J_9.out.up (by repeat (first | exact Chg.refl _ _ | apply Chg.drew | apply Chg.drewN | refine Chg.alloc ?_ _)))).mono ?_
  rintro e w15 ⟨rfl, g1⟩
  have G1 := Lib.hid g1
  have hz15 := G1.out.size
  clear g1
  have U_16 := Lib.hid (Chg.trans U_7.out (Chg.trans (by repeat (first | exact Chg.refl _ _ | apply Chg.drew | apply Chg.drewN | refine Chg.alloc ?_ _)) G1.out))
  clear U_7
  have I_17 := Lib.hid (I_8.out.up (Chg.trans (by repeat (first | exact Chg.refl _ _ | apply Chg.drew | apply Chg.drewN | refine Chg.alloc ?_ _)) G1.out))
  clear I_8
  have J_18 := Lib.hid (J_9.out.up (Chg.trans (by repeat (first | exact Chg.refl _ _ | apply Chg.drew | apply Chg.drewN | refine Chg.alloc ?_ _)) G1.out))
  clear J_9
  have q0_19 := Chg.cell (Chg.trans (by repeat (first | exact Chg.refl _ _ | apply Chg.drew | apply Chg.drewN | refine Chg.alloc ?_ _)) G1.out) q0_10 id
  clear q0_10
  have q1_20 := Chg.cell (Chg.trans (by repeat (first | exact Chg.refl _ _ | apply Chg.drew | apply Chg.drewN | refine Chg.alloc ?_ _)) G1.out) q1_11 id
  clear q1_11
  have p0_21 := Chg.cell (Chg.trans (by repeat (first | exact Chg.refl _ _ | apply Chg.drew | apply Chg.drewN | refine Chg.alloc ?_ _)) G1.out) p0_12 id
  clear p0_12
  have p1_22 := Chg.cell (Chg.trans (by repeat (first | exact Chg.refl _ _ | apply Chg.drew | apply Chg.drewN | refine Chg.alloc ?_ _)) G1.out) p1_13 id
  clear p1_13
  clear G1
  go_wp2
  go_ret
  exact ⟨rfl, (Chg.trans U_16.out (by repeat (first | exact Chg.refl _ _ | apply Chg.drew | apply Chg.drewN | refine Chg.alloc ?_ _)))⟩
end Go.Proofs.Ytnjfhpgmogopnaa
set_option linter.unusedSimpArgs false
set_option linter.unusedVariables false
set_option maxRecDepth 100000
set_option maxHeartbeats 1000000
namespace Go.Proofs.Ytnjfhpgmogopnaa
open Go.ChangeShapes Go.WideShapes Go.ChangeAt Go.RowKit
/-- rows in one block; the numbers of each in blocks of their own -/
def RowsX (w : World) (S : Nat → Prop) (v : Value) (rs : List RowM) : Prop :=
  ∃ (A : Option Addr) (c : Nat) (Q : Nat → Nat → Prop), v = .slice A rs.length c ∧ rs.length ≤ c ∧ c ≤ 9223372036854775807 ∧ (A = none → c = 0) ∧ (∀ i j x, Q i x → Q j x → i = j) ∧
    (0 < rs.length → ∃ b o, A = some ⟨b, o, none⟩ ∧ S b ∧ (∀ i x, Q i x → S x ∧ x ≠ b) ∧ ∀ i (hi : i < rs.length), RowAt w (Q i) b (o + i * 3) rs[i] ∧ w.frozen? ⟨b, o + i * 3, none⟩ = false ∧ w.frozen? ⟨b, o + i * 3 + 1, none⟩ = false)
section
variable {S T : Nat → Prop} {w w' : World} {v : Value} {rs : List RowM}
theorem RowsX.rv (h : RowsX w S v rs) : RowsV w S v rs := by
  obtain ⟨A, c, Q, hv, h1, h2, h3, h4, h5⟩ := h
  refine ⟨A, c, hv, h1, h2, fun hp => ?_, h3⟩
  obtain ⟨b, o, ha, hs, hq, hc⟩ := h5 hp
  exact ⟨b, o, ha, hs, fun i hi => (hc i hi).1.mono fun x _ hx => (hq i x hx).1⟩
theorem RowsX.keep (h : RowsX w S v rs) (g : Chg T w w') (hd : ∀ b, b < w.heap.size → S b → ¬ T b) : RowsX w' S v rs := by
  obtain ⟨A, c, Q, hv, h1, h2, h3, h4, h5⟩ := h
  refine ⟨A, c, Q, hv, h1, h2, h3, h4, fun hp => ?_⟩
  obtain ⟨b, o, ha, hs, hq, hc⟩ := h5 hp
  refine ⟨b, o, ha, hs, hq, fun i hi => ?_⟩
  obtain ⟨k1, k2, k3⟩ := hc i hi
  have hn : ¬ T b := hd b k1.lt hs
  refine ⟨k1.keep g (fun x hx hqx => hd x hx (hq i x hqx).1) hn, ?_, ?_⟩
  · obtain ⟨A', c', e1, -⟩ := k1
    exact (g.frozen e1 hn).trans k2
  · obtain ⟨A', c', -, e2, -⟩ := k1
    exact (g.frozen e2 hn).trans k3
theorem RowsX.up (h : RowsX w S v rs) (g : Up w w') : RowsX w' S v rs := h.keep g fun _ _ _ h => h
theorem RowsX.mono (h : RowsX w S v rs) (hs : ∀ b, b < w.heap.size → S b → T b) : RowsX w T v rs := by
  obtain ⟨A, c, Q, hv, h1, h2, h3, h4, h5⟩ := h
  refine ⟨A, c, fun i x => Q i x ∧ x < w.heap.size, hv, h1, h2, h3, fun i j x a b => h4 i j x a.1 b.1, fun hp => ?_⟩
  obtain ⟨b, o, ha, hS, hq, hc⟩ := h5 hp
  exact ⟨b, o, ha, hs b (hc 0 hp).1.lt hS, fun i x hx => ⟨hs x hx.2 (hq i x hx.1).1, (hq i x hx.1).2⟩, fun i hi => ⟨(hc i hi).1.mono fun x hx hq => ⟨hq, hx⟩, (hc i hi).2⟩⟩
theorem RowsX.shape (h : RowsX w S v rs) : ∃ A c, v = .slice A rs.length c ∧ rs.length ≤ c ∧ c ≤ 9223372036854775807 ∧ (A = none → c = 0) :=
  let ⟨A, c, _, h1, h2, h3, h4, _⟩ := h; ⟨A, c, h1, h2, h3, h4⟩
/-- a row, and what is known when it has been marked -/
theorem RowsX.at_ {A : Option Addr} {c : Nat} (h : RowsX w S (.slice A rs.length c) rs) {j : Nat} (hj : j < rs.length) : ∃ b o A3 c3, ∃ Qj : Nat → Prop, A = some ⟨b, o, none⟩ ∧ w.cell? ⟨b, o + j * 3, none⟩ = some (.int .i64 rs[j].d) ∧ w.cell? ⟨b, o + j * 3 + 1, none⟩ = some (.int .i64 rs[j].c) ∧ w.cell? ⟨b, o + j * 3 + 2, none⟩ = some (.slice A3 rs[j].xs.length c3) ∧
    w.frozen? ⟨b, o + j * 3, none⟩ = false ∧ w.frozen? ⟨b, o + j * 3 + 1, none⟩ = false ∧ Ints w Qj (.slice A3 rs[j].xs.length c3) rs[j].xs ∧ rs[j].xs.length ≤ c3 ∧ c3 ≤ 9223372036854775807 ∧ (∀ x, Qj x → S x) ∧ S b ∧ ¬ Qj b ∧
    ∀ (a a' : Int) (ys : List Int) (w3 : World), I64 a → I64 a' → ys.length = rs[j].xs.length → Chg Qj ((w.setCell ⟨b, o + j * 3, none⟩ (.int .i64 a)).setCell ⟨b, o + j * 3 + 1, none⟩ (.int .i64 a')) w3 → Ints w3 Qj (.slice A3 rs[j].xs.length c3) ys → RowsX w3 S (.slice A rs.length c) (rs.set j ⟨a, a', ys⟩) := by
  obtain ⟨A', c', Q, hv, h1, h2, h3, h4, h5⟩ := h
  obtain ⟨rfl, rfl⟩ : A = A' ∧ c = c' := by simpa using hv
  obtain ⟨b, o, ha, hs, hq, hc⟩ := h5 (by omega)
  obtain ⟨k1, k2, k3⟩ := hc j hj
  obtain ⟨A3, c3, e1, e2, e3, e4, e5, e6, e7, e8⟩ := k1
  refine ⟨b, o, A3, c3, Q j, ha, e1, e2, e3, k2, k3, e4, e5, e6, fun x hx => (hq j x hx).1, hs, fun hx => (hq j b hx).2 rfl, ?_⟩
  intro a a' ys w3 ia ia' hl hg hi
  have g0 : Chg (fun x => x = b) w ((w.setCell ⟨b, o + j * 3, none⟩ (.int .i64 a)).setCell ⟨b, o + j * 3 + 1, none⟩ (.int .i64 a')) := Chg.setCell (Chg.setCell (Chg.refl (fun x => x = b) w) (p := ⟨b, o + j * 3, none⟩) (.inl rfl) _) (p := ⟨b, o + j * 3 + 1, none⟩) (.inl rfl) _
  refine ⟨A, c, Q, by rw [List.length_set], by rw [List.length_set]; exact h1, h2, h3, h4, fun _ => ⟨b, o, ha, hs, hq, fun i hi2 => ?_⟩⟩
  rw [List.length_set] at hi2
  have hnb : ¬ Q j b := fun hx => (hq j b hx).2 rfl
  have fr : ∀ t, (((w.setCell ⟨b, o + j * 3, none⟩ (.int .i64 a)).setCell ⟨b, o + j * 3 + 1, none⟩ (.int .i64 a')).cell? ⟨b, t, none⟩).isSome = true → w.frozen? ⟨b, t, none⟩ = false → w3.frozen? ⟨b, t, none⟩ = false := fun t ht hf => by
    obtain ⟨u, hu⟩ := Option.isSome_iff_exists.1 ht
    rw [hg.frozen hu hnb]
    simpa using hf
  by_cases hij : i = j
  · subst hij
    have c1 : ((w.setCell ⟨b, o + i * 3, none⟩ (.int .i64 a)).setCell ⟨b, o + i * 3 + 1, none⟩ (.int .i64 a')).cell? ⟨b, o + i * 3, none⟩ = some (.int .i64 a) := by
      rw [World.cell?_setCell_other _ _ _ _ (fun h => by injection h with _ h _; omega)]
      exact World.cell?_setCell_same _ _ _ e1
    have c2 : ((w.setCell ⟨b, o + i * 3, none⟩ (.int .i64 a)).setCell ⟨b, o + i * 3 + 1, none⟩ (.int .i64 a')).cell? ⟨b, o + i * 3 + 1, none⟩ = some (.int .i64 a') :=
      World.cell?_setCell_same _ _ _ ((World.cell?_setCell_other _ _ _ _ (fun h => by injection h with _ h _; omega)).trans e2)
    have c3' : ((w.setCell ⟨b, o + i * 3, none⟩ (.int .i64 a)).setCell ⟨b, o + i * 3 + 1, none⟩ (.int .i64 a')).cell? ⟨b, o + i * 3 + 2, none⟩ = some (.slice A3 rs[i].xs.length c3) := by
      rw [World.cell?_setCell_other _ _ _ _ (fun h => by injection h with _ h _; omega), World.cell?_setCell_other _ _ _ _ (fun h => by injection h with _ h _; omega)]
      exact e3
    have c5 := hg.cell c1 hnb
    have c6 := hg.cell c2 hnb
    have c7 := hg.cell c3' hnb
    refine ⟨?_, fr _ (by rw [c1]; rfl) k2, fr _ (by rw [c2]; rfl) k3⟩
    rw [List.getElem_set_self]
    refine ⟨A3, c3, c5, c6, by rw [hl]; exact c7, by rw [hl]; exact hi, by rw [hl]; exact e5, e6, ⟨ia, ia'⟩, World.block_lt_of_cell? _ _ c5⟩
  · obtain ⟨m1, m2, m3⟩ := hc i hi2
    obtain ⟨A4, c4, d1, d2, d3, d4, d5, d6, d7, d8⟩ := m1
    have st : ∀ t, t < 3 → ∀ u, w.cell? ⟨b, o + i * 3 + t, none⟩ = some u → ((w.setCell ⟨b, o + j * 3, none⟩ (.int .i64 a)).setCell ⟨b, o + j * 3 + 1, none⟩ (.int .i64 a')).cell? ⟨b, o + i * 3 + t, none⟩ = some u := fun t ht u hu => by
      rw [World.cell?_setCell_other _ _ _ _ (fun h => by injection h with _ h _; omega), World.cell?_setCell_other _ _ _ _ (fun h => by injection h with _ h _; omega)]
      exact hu
    have c1 := st 0 (by omega) _ d1
    have c2 := st 1 (by omega) _ d2
    have c3' := st 2 (by omega) _ d3
    have c5 := hg.cell c1 hnb
    have c6 := hg.cell c2 hnb
    have c7 := hg.cell c3' hnb
    refine ⟨?_, fr _ (by rw [show o + i * 3 = o + i * 3 + 0 from rfl, c1]; rfl) m2, fr _ (by rw [c2]; rfl) m3⟩
    rw [List.getElem_set_ne (fun h => hij h.symm)]
    have hI : Ints w3 (Q i) (.slice A4 rs[i].xs.length c4) rs[i].xs := ((d4.keep g0 (fun x _ hx hb => (hq i x hx).2 hb)).keep hg (fun x _ hx hx2 => hij (h4 i j x hx hx2)))
    exact ⟨A4, c4, c5, c6, c7, hI, d5, d6, d7, World.block_lt_of_cell? _ _ c5⟩
end
/-- the rows that were copied so far -/
def RowsIn2 (w : World) (g B : Nat) (cs : List Value) (rs : List RowM) (j : Nat) : Prop :=
  ∃ Q : Nat → Nat → Prop, (∀ i x, Q i x → g < x ∧ x < B) ∧ (∀ i k x, Q i x → Q k x → i = k) ∧
    ∀ i (hi : i < rs.length), i < j → ∃ A c, cs[i * 3]? = some (.int .i64 rs[i].d) ∧ cs[i * 3 + 1]? = some (.int .i64 rs[i].c) ∧ cs[i * 3 + 2]? = some (.slice A rs[i].xs.length c) ∧ Ints w (Q i) (.slice A rs[i].xs.length c) rs[i].xs ∧ rs[i].xs.length ≤ c ∧ c ≤ 9223372036854775807
theorem RowsIn2.keep {S : Nat → Prop} {w w' : World} {g B : Nat} {cs : List Value} {rs : List RowM} {j : Nat} (h : RowsIn2 w g B cs rs j) (k : Chg S w w') (hS : ∀ b, b < w.heap.size → g < b → ¬ S b) : RowsIn2 w' g B cs rs j := by
  obtain ⟨Q, h1, h2, h3⟩ := h
  refine ⟨Q, h1, h2, fun i hi hij => ?_⟩
  obtain ⟨A, c, k1, k2, k3, k4, k5⟩ := h3 i hi hij
  exact ⟨A, c, k1, k2, k3, k4.keep k (fun b hb hq => hS b hb (h1 i b hq).1), k5⟩
theorem RowsIn2.le {w : World} {g B B' : Nat} {cs : List Value} {rs : List RowM} {j : Nat} (h : RowsIn2 w g B cs rs j) (hB : B ≤ B') : RowsIn2 w g B' cs rs j := by
  obtain ⟨Q, h1, h2, h3⟩ := h
  exact ⟨Q, fun i x hx => ⟨(h1 i x hx).1, by have := (h1 i x hx).2; omega⟩, h2, h3⟩
theorem RowsIn2.next {w : World} {g B : Nat} {cs : List Value} {rs : List RowM} {j : Nat} (h : RowsIn2 w g B cs rs j) (hgB : g < B) (hl : cs.length = j * 3) (hj : j < rs.length) {A : Option Addr} {c : Nat} (hB : B ≤ w.heap.size) (hi : Ints w (fun b => B ≤ b) (.slice A rs[j].xs.length c) rs[j].xs) (h1 : rs[j].xs.length ≤ c) (h2 : c ≤ 9223372036854775807) :
    RowsIn2 w g w.heap.size (cs ++ [.int .i64 rs[j].d, .int .i64 rs[j].c, .slice A rs[j].xs.length c]) rs (j + 1) := by
  obtain ⟨Q, q1, q2, q3⟩ := h
  refine ⟨fun i x => (i < j ∧ Q i x) ∨ (i = j ∧ B ≤ x ∧ x < w.heap.size), ?_, ?_, fun i hi' hij => ?_⟩
  · rintro i x (⟨_, hq⟩ | ⟨_, hq⟩)
    · have := q1 i x hq; omega
    · omega
  · rintro i k x (⟨_, hq⟩ | ⟨e1, hq⟩) (⟨_, hq'⟩ | ⟨e2, hq'⟩)
    · exact q2 i k x hq hq'
    · have := (q1 i x hq).2; omega
    · have := (q1 k x hq').2; omega
    · omega
  by_cases he : i < j
  · obtain ⟨A', c', k1, k2, k3, k4, k5⟩ := q3 i hi' he
    exact ⟨A', c', by rw [List.getElem?_append_left (by omega)]; exact k1, by rw [List.getElem?_append_left (by omega)]; exact k2, by rw [List.getElem?_append_left (by omega)]; exact k3, k4.mono (fun b _ hb => .inl ⟨he, hb⟩), k5⟩
  · obtain rfl : i = j := by omega
    exact ⟨A, c, by rw [List.getElem?_append_right (by omega), hl]; simp, by rw [List.getElem?_append_right (by omega), hl]; simp, by rw [List.getElem?_append_right (by omega), hl]; simp, hi.mono (fun b hb hq => .inr ⟨rfl, hq, hb⟩), h1, h2⟩
theorem toRowX_any (w : World) (S : Nat → Prop) (v : Value) (rs : List RowM) (hb : cntRs rs ≤ 1048576) (h : RowsV w S v rs) :
    Calls Try.prog 92 #[v] w fun e w' => ∃ u, e = .returned u ∧ RowsX w' (New w.heap.size w'.heap.size) u rs ∧ Up w w' := by
  obtain ⟨A, c, rfl, hlc, hcm, -⟩ := h.shape
  have H := Lib.hid h
  have hbl : rs.length ≤ 1048576 := by unfold cntRs at hb; omega
  have HB := Lib.hid hb
  clear h hb
  obtain ⟨i0, hi, hz0, hz1, hz2⟩ := info_parts infoRows
  have hmk : ∀ u : World, (Instr.makeSlice 55 (.int .i64 (rs.length : Int)) (.int .i64 (rs.length : Int))).run Try.prog u =
      .ok (.slice (some ⟨u.heap.size, 0, none⟩) rs.length rs.length) (u.alloc (.cells (madeCells #[Value.int .i64 0, Value.int .i64 0, Value.slice none 0 0] (rs.length * 3)) 87)) := fun u => by
    have h := run_make (P := Try.prog) u 55 87 i0 (.agg #[.int .i64 0, .int .i64 0, .slice none 0 0]) Try.underlying55 hi hz0 .i64 .i64 (rs.length : Int) (rs.length : Int) (by omega) (Int.le_refl _) (by rw [hz2]; omega) (by omega)
    simpa [hz1, Value.cells] using h
  go_enter Try.func92, Try.ntmps92
  go_wp2
  have Hi := Lib.hid hmk
  clear hmk hi hz0 hz1 hz2
  go_loopw [4] (fun i wr => ∃ (j : Nat) (cs : List Value), j ≤ rs.length ∧ i = .int .i64 j ∧ Hid (Up w wr) ∧ w.heap.size < wr.heap.size ∧ Hid (cs.length = j * 3) ∧ Hid (Copying wr w.heap.size 3 rs.length j cs) ∧ Hid (RowsIn2 wr w.heap.size wr.heap.size cs rs j)) (fun i _ => rs.length - (intOf i).toNat)
  case atStart => exact ⟨0, [], by omega, rfl, (Chg.refl _ _).alloc _, by simp, Lib.hid rfl, Copying.start _ _ _ _ _ _ (by simp [size_madeCells]), Lib.hid ⟨fun _ _ => False, fun _ _ h => h.elim, fun _ _ _ h => h.elim, fun i hi h => by omega⟩⟩
  case round =>
    obtain ⟨j, cs, hj, rfl, hg, hsz, hcl, hcs, hin⟩ := hrel
    by_cases hlt : j < rs.length
    · obtain ⟨b, o, rfl, hc⟩ := (H.out.up hg.out).at_ hlt
      obtain ⟨A3, c3, f1, f2, f3, hv⟩ := (hc j hlt).val
      have HV := Lib.hid hv
      have HBJ : Hid (cntInts rs[j].xs ≤ 8388608) := Lib.hid (by have h1 := cntR_succ hlt; have h2 := cntR_le (rs := rs) (show j + 1 ≤ rs.length by omega); have h3 := HB.out; unfold cntRs at h3; unfold cntInts; omega)
      clear hc hv
      go_wp2_with fail
      with_reducible refine (toRow_any _ _ _ rs[j] HBJ.out HV.out).mono ?_
      rintro e w2 ⟨u, rfl, k2, g2⟩
      obtain ⟨A4, c4, rfl, k4, hl4, hc4, -⟩ := k2.shape
      have hcs := Lib.hid (Copying.up hcs.out g2)
      have hin := Lib.hid ((hin.out.keep g2 (fun _ _ _ h => h)).next hsz hcl.out hlt g2.size (k4.mono (fun b _ hb => hb.1)) hl4 hc4)
      have HG := Lib.hid (Chg.trans hg.out g2)
      have hsz2 := Nat.lt_of_lt_of_le hsz g2.size
      clear g2 k2 k4 f1 f2 f3
      obtain ⟨u0, x0, q0⟩ := hcs.out.cell hlt 0 (by omega)
      obtain ⟨u1, x1, q1⟩ := hcs.out.cell hlt 1 (by omega)
      obtain ⟨u2, x2, q2⟩ := hcs.out.cell hlt 2 (by omega)
      rw [Nat.add_zero] at x0 q0
      go_wp2
      go_roundw
      case rel =>
        refine ⟨j + 1, cs ++ [.int .i64 rs[j].d, .int .i64 rs[j].c, .slice A4 rs[j].xs.length c4], by omega, by go_num, Chg.setCellsNew (Nat.le_refl _) [.int .i64 rs[j].d, .int .i64 rs[j].c, .slice A4 rs[j].xs.length c4] (j * 3) HG.out, ?_, Lib.hid (by rw [List.length_append, hcl.out]; simp; omega), Copying.next (Copying.grow hcs.out hcl.out _) hlt (vs := [.int .i64 rs[j].d, .int .i64 rs[j].c, .slice A4 rs[j].xs.length c4]) rfl (fun i hi => ?_), Lib.hid ((hin.out.keep (Chg.setCellsAt (S := fun b => b = w.heap.size) rfl [.int .i64 rs[j].d, .int .i64 rs[j].c, .slice A4 rs[j].xs.length c4] (j * 3) (Chg.refl _ _)) (fun b _ h1 h2 => by have h2 : b = w.heap.size := h2; omega)).le (Chg.setCellsAt (S := fun b => b = w.heap.size) rfl [.int .i64 rs[j].d, .int .i64 rs[j].c, .slice A4 rs[j].xs.length c4] (j * 3) (Chg.refl _ _)).size)⟩
        · simpa [World.setCell] using hsz2
        · have e := hcl.out
          rw [List.getElem?_append_right (by omega), e, Nat.add_sub_cancel_left]
          exact List.getElem?_eq_getElem hi
      case measure => first | (simp [intOf]; done) | (simp [intOf]; omega)
    · obtain rfl : j = rs.length := by omega
      go_wp2
      go_ret
      obtain ⟨Q, q1, q2, q3⟩ := hin.out
      refine ⟨_, rfl, ⟨_, _, Q, rfl, Nat.le_refl _, by omega, by simp, q2, fun hp => ⟨w.heap.size, 0, rfl, ⟨Nat.le_refl _, hsz⟩, fun i x hx => ⟨⟨by have := (q1 i x hx).1; omega, (q1 i x hx).2⟩, by have := (q1 i x hx).1; omega⟩, fun i hi => ?_⟩⟩, hg.out⟩
      obtain ⟨b, o, -, hc⟩ := H.out.at_ hi
      obtain ⟨-, -, -, -, -, -, -, -, h7, -⟩ := hc i hi
      obtain ⟨A', c', k1, k2, k3, k4, k5, k6⟩ := q3 i hi hi
      have e0 := ((hcs.out (i * 3) (by omega)).2.2 (by omega)).trans k1
      have e1 := ((hcs.out (i * 3 + 1) (by omega)).2.2 (by omega)).trans k2
      have e2 := ((hcs.out (i * 3 + 2) (by omega)).2.2 (by omega)).trans k3
      rw [Nat.zero_add]
      exact ⟨⟨A', c', e0, e1, e2, k4, k5, k6, h7, hsz⟩, (hcs.out (i * 3) (by omega)).2.1, (hcs.out (i * 3 + 1) (by omega)).2.1⟩
/-- what marks a slice of rows bears -/
def cntM (rs : List RowM) (j : Nat) : Nat := 2 * j + cntR rs j
def cntC (rs : List RowM) : Nat := cntM rs rs.length
theorem cntC_le (rs : List RowM) : cntC rs ≤ 2 * cntRs rs := by unfold cntC cntM cntRs; omega
def SameLen (rs rs' : List RowM) : Prop := rs'.length = rs.length ∧ ∀ i (h : i < rs.length) (h' : i < rs'.length), rs'[i].xs.length = rs[i].xs.length
theorem SameLen.set {rs rs' : List RowM} (h : SameLen rs rs') {j : Nat} (r : RowM) (hr : ∀ (h : j < rs.length), r.xs.length = rs[j].xs.length) : SameLen rs (rs'.set j r) := by
  refine ⟨by rw [List.length_set]; exact h.1, fun i hi hi' => ?_⟩
  by_cases e : i = j
  · subst e; rw [List.getElem_set_self]; exact hr hi
  · rw [List.getElem_set_ne (fun h => e h.symm)]; exact h.2 i hi _
theorem markRowX_any (w : World) (S : Nat → Prop) (v : Value) (rs : List RowM) (k : Int) (hk : 0 ≤ k) (hb : k + cntC rs ≤ 4611686018427387904) (h : RowsX w S v rs) :
    Calls Try.prog 96 #[v, .int .i64 k] w fun e w' => e = .returned (.int .i64 (k + cntC rs)) ∧ Chg S w w' := by
  obtain ⟨A, c, rfl, hlc, hcm, -⟩ := h.shape
  have H := Lib.hid h
  clear h
  go_enter Try.func96, Try.ntmps96
  go_wp2
  go_loopw [1, 5] (fun q i wr => ∃ (j : Nat) (rs' : List RowM), j ≤ rs.length ∧ i = .int .i64 j ∧ q = .int .i64 (k + cntM rs j) ∧ Hid (Chg S w wr) ∧ Hid (SameLen rs rs') ∧ Hid (RowsX wr S (.slice A rs.length c) rs')) (fun _ i _ => rs.length - (intOf i).toNat)
  case atStart => exact ⟨0, rs, by omega, rfl, by simp [cntM, cntR], Chg.refl _ _, Lib.hid ⟨rfl, fun _ _ _ => rfl⟩, H.out⟩
  clear H
  case round =>
    obtain ⟨j, rs', hj, rfl, rfl, hg, hs, hm⟩ := hrel
    by_cases hlt : j < rs.length
    · have hlen := hs.out.1
      have hm' : RowsX wr S (.slice A rs'.length c) rs' := by rw [hlen]; exact hm.out
      obtain ⟨b, o, A3, c3, Qj, rfl, f1, f2, f3, z1, z2, k0, h1, h2, h3, h4, h5, h6⟩ := hm'.at_ (show j < rs'.length by omega)
      have hxl : rs'[j].xs.length = rs[j].xs.length := hs.out.2 j hlt (by omega)
      obtain ⟨r, hre⟩ : ∃ r, r = rs'[j]'(by omega) := ⟨_, rfl⟩
      rw [← hre] at f1 f2 f3 k0 h1 h6 hxl
      clear hre
      have hle1 : cntM rs (j + 1) ≤ cntC rs := by unfold cntC cntM; have := cntR_le (rs := rs) (show j + 1 ≤ rs.length by omega); omega
      have HC : Hid (cntM rs (j + 1) = cntM rs j + 2 + rs[j].xs.length) := Lib.hid (by unfold cntM; rw [cntR_succ hlt]; omega)
      have hle2 : cntM rs j + 2 + rs[j].xs.length ≤ cntC rs := by rw [← HC.out]; exact hle1
      obtain ⟨m, hm0⟩ : ∃ m : Nat, m = cntM rs j := ⟨_, rfl⟩
      rw [← hm0] at hle2 ⊢
      have HM := Lib.hid hm0
      have I1 : Hid (I64 (k + m)) := Lib.hid (by unfold I64; omega)
      have I2 : Hid (I64 (k + m + 1)) := Lib.hid (by unfold I64; omega)
      have hk2 : (0 : Int) ≤ k + m + 1 + 1 := by omega
      have HB2 : Hid (k + m + 1 + 1 + cntInts r.xs ≤ 4611686018427387904) := Lib.hid (by unfold cntInts; omega)
      have K0 := Lib.hid k0
      have H3 := Lib.hid h3
      have H4 := Lib.hid h4
      have H5 := Lib.hid h5
      have H6 := Lib.hid h6
      have HX := Lib.hid hxl
      have HLN := Lib.hid hlen
      have WD : Hid (Chg (fun x => x = b) wr ((wr.setCell ⟨b, o + j * 3, none⟩ (.int .i64 (k + m))).setCell ⟨b, o + j * 3 + 1, none⟩ (.int .i64 (k + m + 1)))) := Lib.hid (Chg.setCell (Chg.setCell (Chg.refl (fun x => x = b) wr) (p := ⟨b, o + j * 3, none⟩) (.inl rfl) _) (p := ⟨b, o + j * 3 + 1, none⟩) (.inl rfl) _)
      clear hm' k0 h3 h4 h5 h6 hm hle1 hxl hlen hm0
      go_wp2_with fail
      refine (markInts _ Qj _ r.xs (k + m + 1 + 1) hk2 HB2.out (K0.out.keep WD.out (fun x _ hq hx => H5.out (hx ▸ hq)))).mono ?_
      rintro e w1 ⟨rfl, g1, k1⟩
      have HX2 := Lib.hid (H6.out _ _ _ _ I1.out I2.out (marks_length _ _) g1 k1)
      have HG := Lib.hid (Chg.trans hg.out (Chg.trans (WD.out.mono (fun x _ hx => hx ▸ H4.out)) (g1.mono (fun x _ hx => H3.out x hx))))
      have HS2 := Lib.hid (hs.out.set (j := j) ⟨k + m, k + m + 1, marks (k + m + 1 + 1) r.xs.length⟩ (fun _ => by show (marks _ _).length = _; rw [marks_length]; exact HX.out))
      clear g1 k1 f1 f2 f3 z1 z2
      go_wp2
      go_roundw
      case rel => exact ⟨j + 1, rs'.set j ⟨k + m, k + m + 1, marks (k + m + 1 + 1) r.xs.length⟩, by omega, by go_num, by rw [HC.out, ← HM.out, ← HX.out]; unfold cntInts; simp only [Value.int.injEq, true_and]; omega, HG.out, HS2, Lib.hid (by rw [← HLN.out]; exact HX2.out)⟩
      case measure => simp [intOf]; omega
    · obtain rfl : j = rs.length := by omega
      go_wp2
      go_ret
      exact ⟨rfl, hg.out⟩
/-- a chart whose rows' numbers lie in blocks apart -/
def ChartX (w : World) (S : Nat → Prop) (v : Value) (c : ChartM) : Prop := ∃ s, v = .agg #[.int .i64 c.n, s] ∧ RowsX w S s c.rs ∧ I64 c.n
theorem ChartX.cv {w : World} {S : Nat → Prop} {v : Value} {c : ChartM} (h : ChartX w S v c) : ChartV w S v c := let ⟨s, h1, h2, h3⟩ := h; ⟨s, h1, h2.rv, h3⟩
theorem ChartX.keep {S T : Nat → Prop} {w w' : World} {v : Value} {c : ChartM} (h : ChartX w S v c) (g : Chg T w w') (hd : ∀ b, b < w.heap.size → S b → ¬ T b) : ChartX w' S v c := let ⟨s, h1, h2, h3⟩ := h; ⟨s, h1, h2.keep g hd, h3⟩
theorem ChartX.up {S : Nat → Prop} {w w' : World} {v : Value} {c : ChartM} (h : ChartX w S v c) (g : Up w w') : ChartX w' S v c := let ⟨s, h1, h2, h3⟩ := h; ⟨s, h1, h2.up g, h3⟩
theorem ChartV.keep {S T : Nat → Prop} {w w' : World} {v : Value} {c : ChartM} (h : ChartV w S v c) (g : Chg T w w') (hd : ∀ b, b < w.heap.size → S b → ¬ T b) : ChartV w' S v c := let ⟨s, h1, h2, h3⟩ := h; ⟨s, h1, h2.keep g hd, h3⟩
theorem openChartX {w : World} {S : Nat → Prop} {v : Value} {b : ChartM} (h : ChartX w S v b) : ∃ A c, v = .agg #[.int .i64 b.n, .slice A b.rs.length c] ∧ RowsX w S (.slice A b.rs.length c) b.rs ∧ b.rs.length ≤ c ∧ c ≤ 9223372036854775807 := by
  obtain ⟨s, h1, h2, h3⟩ := h
  obtain ⟨A, c, rfl, h5, h6, h7⟩ := h2.shape
  exact ⟨A, c, h1, h2, h5, h6⟩
theorem eqChartX_same (w : World) (S T : Nat → Prop) (v u : Value) (b : ChartM) (h : ChartX w S v b) (h2 : ChartX w T u b) :
    Calls Try.prog 26 #[v, u] w fun e w' => e = .returned (.bool true) ∧ Up w w' := eqChart_same w S T v u b h.cv h2.cv
theorem toChartX_any (w : World) (S : Nat → Prop) (v : Value) (b : ChartM) (hb : cntRs b.rs ≤ 1048576) (h : ChartV w S v b) :
    Calls Try.prog 23 #[v] w fun e w' => ∃ u, e = .returned u ∧ ChartX w' (New w.heap.size w'.heap.size) u b ∧ Up w w' := by
  obtain ⟨A, c, rfl, h4, h5, h6⟩ := openChart h
  have I0 := Lib.hid h4
  have U0 := Lib.hid (Chg.refl Nowhere w)
  obtain ⟨_, _, _, hi1⟩ := h
  have HI1 := Lib.hid hi1
  clear h4 hi1
  have U_1 := Lib.hid (Chg.trans U0.out ((Chg.refl Nowhere w).alloc (.cells #[.int .i64 b.n, .slice A b.rs.length c] 51)))
  clear U0
  have I_2 := Lib.hid (I0.out.up ((Chg.refl Nowhere w).alloc (.cells #[.int .i64 b.n, .slice A b.rs.length c] 51)))
  clear I0
  have q0_3 := (show (w.alloc (.cells #[.int .i64 b.n, .slice A b.rs.length c] 51)).cell? ⟨w.heap.size, 0, none⟩ = some (.int .i64 b.n) from cell_new _ _ _ _)
  have q1_4 := (show (w.alloc (.cells #[.int .i64 b.n, .slice A b.rs.length c] 51)).cell? ⟨w.heap.size, 1, none⟩ = some (.slice A b.rs.length c) from cell_new _ _ _ _)
  have hbx5 : w.heap.size < (w.alloc (.cells #[.int .i64 b.n, .slice A b.rs.length c] 51)).heap.size := by simp
  go_enter Try.func23, Try.ntmps23
  go_wp2_with fail
  refine (toRowX_any _ S _ b.rs hb (I_2.out.up (by repeat (first | exact Chg.refl _ _ | apply Chg.drew | apply Chg.drewN | refine Chg.alloc ?_ _)))).mono ?_
  rintro e w6 ⟨v6, rfl, k1, g1⟩
  obtain ⟨A6, c6, rfl, hl6, hc6, -⟩ := k1.shape
  have K1 := Lib.hid k1
  clear k1
  have G1 := Lib.hid g1
  have hz6 := G1.out.size
  clear g1
  have U_7 := Lib.hid (Chg.trans U_1.out (Chg.trans (by repeat (first | exact Chg.refl _ _ | apply Chg.drew | apply Chg.drewN | refine Chg.alloc ?_ _)) G1.out))
  clear U_1
  have I_8 := Lib.hid (I_2.out.up (Chg.trans (by repeat (first | exact Chg.refl _ _ | apply Chg.drew | apply Chg.drewN | refine Chg.alloc ?_ _)) G1.out))
  clear I_2
  have q0_9 := Chg.cell (Chg.trans (by repeat (first | exact Chg.refl _ _ | apply Chg.drew | apply Chg.drewN | refine Chg.alloc ?_ _)) G1.out) q0_3 id
  clear q0_3
  have q1_10 := Chg.cell (Chg.trans (by repeat (first | exact Chg.refl _ _ | apply Chg.drew | apply Chg.drewN | refine Chg.alloc ?_ _)) G1.out) q1_4 id
  clear q1_4
  obtain ⟨x0_11c, x0_11f⟩ := (show CellF w6 ⟨w.heap.size + 1 + 1, 0, none⟩ (.int .i64 b.n) from CellF.up G1.out (by repeat (first | ((refine cellF_at ?_ rfl); (simp; done)) | refine CellF.up ((Chg.refl _ _).alloc _) ?_)))
  obtain ⟨x1_12c, x1_12f⟩ := (show CellF w6 ⟨w.heap.size + 1 + 1, 1, none⟩ (.slice none 0 0) from CellF.up G1.out (by repeat (first | ((refine cellF_at ?_ rfl); (simp; done)) | refine CellF.up ((Chg.refl _ _).alloc _) ?_)))
  obtain ⟨y0_13c, y0_13f⟩ := (show CellF w6 ⟨w.heap.size + 1, 0, none⟩ (.int .i64 0) from CellF.up G1.out (by repeat (first | ((refine cellF_at ?_ rfl); (simp; done)) | refine CellF.up ((Chg.refl _ _).alloc _) ?_)))
  obtain ⟨y1_14c, y1_14f⟩ := (show CellF w6 ⟨w.heap.size + 1, 1, none⟩ (.slice none 0 0) from CellF.up G1.out (by repeat (first | ((refine cellF_at ?_ rfl); (simp; done)) | refine CellF.up ((Chg.refl _ _).alloc _) ?_)))
  clear G1
  have K_15 := Lib.hid (K1.out)
  clear K1
  go_wp2
  have HC := Lib.hid (show Chg (fun b => b = w.heap.size + 1 ∨ b = w.heap.size + 1 + 1) w6 _ from Chg.setCell (Chg.setCell (Chg.setCell (Chg.refl _ _) (p := ⟨w.heap.size + 1 + 1, 1, none⟩) (.inl (.inr rfl)) (.slice A6 b.rs.length c6)) (p := ⟨w.heap.size + 1, 0, none⟩) (.inl (.inl rfl)) (.int .i64 b.n)) (p := ⟨w.heap.size + 1, 1, none⟩) (.inl (.inl rfl)) (.slice A6 b.rs.length c6))
  exact bodyPost_ret (v := .agg #[.int .i64 b.n, .slice A6 b.rs.length c6]) (by simp [results, Try.results23, go_sem, y0_13c, y1_14c]) rfl ⟨_, rfl, ⟨_, rfl, (K_15.out.keep HC.out (fun b _ hb hd => by have := hb.1; simp at this; omega)).mono (fun b _ hb => ⟨by have := hb.1; simp at this; omega, Nat.lt_of_lt_of_le hb.2 HC.out.size⟩), HI1.out⟩, Chg.new U_7.out HC.out (fun i hi hd => by omega)⟩
theorem markChartX_any (w : World) (S : Nat → Prop) (v : Value) (b : ChartM) (k : Int) (hk : 0 ≤ k) (hb : k + cntC b.rs ≤ 4611686018427387904) (h : ChartX w S v b) :
    Calls Try.prog 27 #[v, .int .i64 k] w fun e w' => e = .returned (.int .i64 (k + cntC b.rs)) ∧ Chg S w w' := by
  obtain ⟨A, c, rfl, h4, h5, h6⟩ := openChartX h
  have U0 := Lib.hid ((Chg.refl Nowhere w).alloc (.cells #[.int .i64 b.n, .slice A b.rs.length c] 57))
  have H := Lib.hid (h4.up U0.out)
  have q1 := (show (w.alloc (.cells #[.int .i64 b.n, .slice A b.rs.length c] 57)).cell? ⟨w.heap.size, 1, none⟩ = some (.slice A b.rs.length c) from cell_new _ _ _ _)
  clear h h4
  go_enter Try.func27, Try.ntmps27
  go_wp2_with fail
  with_reducible refine (markRowX_any _ S _ b.rs k hk hb H.out).mono ?_
  rintro e w1 ⟨rfl, g1⟩
  have G1 := Lib.hid (Chg.trans (Chg.of_up U0.out) g1)
  clear g1 q1
  go_wp2
  go_ret
  exact ⟨rfl, G1.out⟩
end Go.Proofs.Ytnjfhpgmogopnaa
namespace Go.Proofs.Ytnjfhpgmogopnaa
def insM (x : Int) : List Int → List Int
  | [] => [x]
  | y :: ys => if y ≥ x then (if y > x then x :: y :: ys else y :: ys) else y :: insM x ys
def putL (cs : List Int) : List Int := cs.foldl (fun a x => insM x a) []
theorem insM_mem (x z : Int) : ∀ ys : List Int, z ∈ insM x ys ↔ z = x ∨ z ∈ ys
  | [] => by simp [insM]
  | y :: ys => by
    unfold insM
    split
    · split
      · simp
      · have : y = x := by omega
        subst this
        simp
    · rw [List.mem_cons, insM_mem x z ys, List.mem_cons]
      constructor
      · rintro (h | h | h)
        · exact .inr (.inl h)
        · exact .inl h
        · exact .inr (.inr h)
      · rintro (h | h | h)
        · exact .inr (.inl h)
        · exact .inl h
        · exact .inr (.inr h)
theorem insM_sorted (x : Int) : ∀ {ys : List Int}, ys.Pairwise (· < ·) → (insM x ys).Pairwise (· < ·)
  | [], _ => by simp [insM]
  | y :: ys, h => by
    unfold insM
    rw [List.pairwise_cons] at h
    split
    · split
      · rename_i h1 h2
        rw [List.pairwise_cons]
        refine ⟨fun z hz => ?_, List.pairwise_cons.2 h⟩
        rcases List.mem_cons.1 hz with rfl | hz
        · exact h2
        · have := h.1 z hz; omega
      · exact List.pairwise_cons.2 h
    · rename_i h1
      rw [List.pairwise_cons]
      refine ⟨fun z hz => ?_, insM_sorted x h.2⟩
      rcases (insM_mem x z ys).1 hz with rfl | hz
      · omega
      · exact h.1 z hz
theorem putL_ok (cs : List Int) : ∀ a : List Int, a.Pairwise (· < ·) → (cs.foldl (fun a x => insM x a) a).Pairwise (· < ·) ∧ ∀ z, z ∈ cs.foldl (fun a x => insM x a) a ↔ z ∈ a ∨ z ∈ cs := by
  induction cs with
  | nil => intro a h; exact ⟨h, fun z => by simp⟩
  | cons x cs ih =>
    intro a h
    obtain ⟨h1, h2⟩ := ih (insM x a) (insM_sorted x h)
    refine ⟨h1, fun z => ?_⟩
    rw [List.foldl_cons, h2 z, insM_mem, List.mem_cons]
    constructor
    · rintro ((h | h) | h)
      · exact .inr (.inl h)
      · exact .inl h
      · exact .inr (.inr h)
    · rintro (h | h | h)
      · exact .inl (.inr h)
      · exact .inl (.inl h)
      · exact .inr h
theorem rising_eq : ∀ {xs ys : List Int}, xs.Pairwise (· < ·) → ys.Pairwise (· < ·) → (∀ z, z ∈ xs ↔ z ∈ ys) → xs = ys
  | [], [], _, _, _ => rfl
  | [], y :: ys, _, _, h => absurd ((h y).2 (by simp)) (by simp)
  | x :: xs, [], _, _, h => absurd ((h x).1 (by simp)) (by simp)
  | x :: xs, y :: ys, h1, h2, h => by
    rw [List.pairwise_cons] at h1 h2
    have e : x = y := by
      rcases List.mem_cons.1 ((h x).1 (by simp)) with e | hx
      · exact e
      · rcases List.mem_cons.1 ((h y).2 (by simp)) with e | hy
        · exact e.symm
        · have := h2.1 x hx; have := h1.1 y hy; omega
    subst e
    rw [rising_eq h1.2 h2.2 (fun z => ?_)]
    constructor
    · intro hz
      rcases List.mem_cons.1 ((h z).1 (by simp [hz])) with rfl | h9
      · have := h1.1 z hz; omega
      · exact h9
    · intro hz
      rcases List.mem_cons.1 ((h z).2 (by simp [hz])) with rfl | h9
      · have := h2.1 z hz; omega
      · exact h9
end Go.Proofs.Ytnjfhpgmogopnaa
namespace Go.Proofs.Ytnjfhpgmogopnaa
open Go.Proofs
open Go.Shelf
def Try.laysSort_ren : Go.Shelf.Ren := ⟨fun | 53 => 158 | 64 => 214 | 63 => 213 | 78 => 265 | 79 => 266 | 70 => 256 | 71 => 257 | 72 => 258 | 73 => 259 | 74 => 260 | 75 => 261 | 59 => 262 | 76 => 263 | 77 => 264 | 88 => 280 | 89 => 281 | 90 => 282 | 91 => 283 | 92 => 284 | 68 => 285 | 96 => 287 | n => n, fun | 22 => 37 | 23 => 2 | 3 => 3 | 51 => 243 | 0 => 0 | 67 => 278 | 69 => 227 | 4 => 4 | 61 => 270 | 60 => 269 | 44 => 275 | 5 => 5 | 9 => 9 | 75 => 288 | 79 => 292 | 83 => 294 | 84 => 295 | n => n, fun | n => n⟩
theorem Try.laysSort : Go.Proofs.SlLaysN.n53 Try.prog Try.laysSort_ren := {
  mixed := by kernel_rfl
  f53 := ⟨Try.f158.name, by decide, Try.func158.trans (congrArg some (by kernel_rfl))⟩
  f59 := ⟨Try.f262.name, by decide, Try.func262.trans (congrArg some (by kernel_rfl))⟩
  f63 := ⟨Try.f213.name, by decide, Try.func213.trans (congrArg some (by kernel_rfl))⟩
  f64 := Try.func214.trans (congrArg some (by kernel_rfl))
  f68 := ⟨Try.f285.name, by decide, Try.func285.trans (congrArg some (by kernel_rfl))⟩
  f70 := ⟨Try.f256.name, by decide, Try.func256.trans (congrArg some (by kernel_rfl))⟩
  f71 := ⟨Try.f257.name, by decide, Try.func257.trans (congrArg some (by kernel_rfl))⟩
  f72 := ⟨Try.f258.name, by decide, Try.func258.trans (congrArg some (by kernel_rfl))⟩
  f73 := ⟨Try.f259.name, by decide, Try.func259.trans (congrArg some (by kernel_rfl))⟩
  f74 := ⟨Try.f260.name, by decide, Try.func260.trans (congrArg some (by kernel_rfl))⟩
  f75 := ⟨Try.f261.name, by decide, Try.func261.trans (congrArg some (by kernel_rfl))⟩
  f76 := ⟨Try.f263.name, by decide, Try.func263.trans (congrArg some (by kernel_rfl))⟩
  f77 := ⟨Try.f264.name, by decide, Try.func264.trans (congrArg some (by kernel_rfl))⟩
  f78 := Try.func265.trans (congrArg some (by kernel_rfl))
  f79 := Try.func266.trans (congrArg some (by kernel_rfl))
  f88 := ⟨Try.f280.name, by decide, Try.func280.trans (congrArg some (by kernel_rfl))⟩
  f89 := Try.func281.trans (congrArg some (by kernel_rfl))
  f90 := Try.func282.trans (congrArg some (by kernel_rfl))
  f91 := ⟨Try.f283.name, by decide, Try.func283.trans (congrArg some (by kernel_rfl))⟩
  f92 := ⟨Try.f284.name, by decide, Try.func284.trans (congrArg some (by kernel_rfl))⟩
  f96 := ⟨Try.f287.name, by decide, Try.func287.trans (congrArg some (by kernel_rfl))⟩
  t0 := Try.underlying0
  a0 := Try.isAgg0
  z0 := Try.sizeOf0
  v0 := Try.zeroValue0
  t3 := Try.underlying3
  a3 := Try.isAgg3
  z3 := Try.sizeOf3
  v3 := Try.zeroValue3
  t4 := Try.underlying4
  a4 := Try.isAgg4
  z4 := Try.sizeOf4
  v4 := Try.zeroValue4
  t5 := Try.underlying5
  a5 := Try.isAgg5
  z5 := Try.sizeOf5
  v5 := Try.zeroValue5
  t9 := Try.underlying9
  a9 := Try.isAgg9
  z9 := Try.sizeOf9
  v9 := Try.zeroValue9
  t22 := Try.underlying37
  a22 := Try.isAgg37
  z22 := Try.sizeOf37
  v22 := Try.zeroValue37
  t23 := Try.underlying2
  a23 := Try.isAgg2
  z23 := Try.sizeOf2
  v23 := Try.zeroValue2
  t44 := Try.underlying275
  a44 := Try.isAgg275
  z44 := Try.sizeOf275
  v44 := Try.zeroValue275
  t51 := Try.underlying243
  a51 := Try.isAgg243
  z51 := Try.sizeOf243
  v51 := Try.zeroValue243
  t60 := Try.underlying269
  a60 := Try.isAgg269
  z60 := Try.sizeOf269
  v60 := Try.zeroValue269
  t61 := Try.underlying270
  a61 := Try.isAgg270
  z61 := Try.sizeOf270
  v61 := Try.zeroValue270
  t67 := Try.underlying278
  a67 := Try.isAgg278
  z67 := Try.sizeOf278
  v67 := Try.zeroValue278
  t69 := Try.underlying227
  a69 := Try.isAgg227
  z69 := Try.sizeOf227
  v69 := Try.zeroValue227
  t75 := Try.underlying288
  a75 := Try.isAgg288
  z75 := Try.sizeOf288
  v75 := Try.zeroValue288
  t79 := Try.underlying292
  a79 := Try.isAgg292
  z79 := Try.sizeOf292
  v79 := Try.zeroValue292
  t83 := Try.underlying294
  a83 := Try.isAgg294
  z83 := Try.sizeOf294
  v83 := Try.zeroValue294
  t84 := Try.underlying295
  a84 := Try.isAgg295
  z84 := Try.sizeOf295
  v84 := Try.zeroValue295 }
open Go.Lib in
theorem Try.slices_Sort_int (blk off cap : Nat) (zs : List Int) (w : World) (hH : Go.Sort.Holds (Value.int .i64) w blk off zs.toArray) (hblk : blk < w.heap.size) (hsz : zs.length < 4611686018427387904) :
    Calls Try.prog 158 #[.slice (some ⟨blk, off, none⟩) zs.length cap] w fun e w' =>
      e = .returned (.tuple #[]) ∧ ∃ n os, w' = Go.Sort.grow (Go.Sort.putRow (Value.int .i64) (Go.Sort.ahead w n) blk off (zs.mergeSort fun x y => decide (x ≤ y)).toArray) os := AnyG.slices_Sort_int Try.laysSort blk off cap zs w hH hblk hsz
open Go.Lib in
theorem Try.slices_Sort_int_none (p : Option Addr) (cap : Nat) (w : World) :
    Calls Try.prog 158 #[.slice p 0 cap] w fun e w' => e = .returned (.tuple #[]) ∧ w' = w := AnyG.slices_Sort_int_none Try.laysSort p cap w
end Go.Proofs.Ytnjfhpgmogopnaa
namespace Go.Proofs.Ytnjfhpgmogopnaa
open Go.ChangeShapes Go.WideShapes Go.ChangeAt Go.RowKit Go.Sort
theorem Chg.mapBlock (w : World) (blk : Nat) (f : Array Value → Array Value) : Chg (fun b => b = blk) w (Go.Sort.mapBlock w blk f) :=
  ⟨rfl, rfl, rfl, by simp [Go.Sort.mapBlock], fun i _ hi => by
    unfold Go.Sort.mapBlock
    have : blk ≠ i := fun e => hi e.symm
    simp [Array.getElem?_modify, this]⟩
theorem Chg.ahead {S : Nat → Prop} {a w : World} (h : Chg S a w) (n : Nat) : Chg S a (Go.Sort.ahead w n) := ⟨h.os, h.tape, h.output, h.size, h.block⟩
def sortL (ys : List Int) : List Int := ys.mergeSort fun x y => decide (x ≤ y)
theorem sortL_length (ys : List Int) : (sortL ys).length = ys.length := by unfold sortL; simp
theorem sort_any (w : World) (base : Nat) (v : Value) (ys : List Int) (h : OwnI w base v ys) (hl : ys.length ≤ 1000000) :
    Calls Try.prog 158 #[v] w fun e w' => e = .returned (.tuple #[]) ∧ OwnI w' base v (sortL ys) ∧ Chg (fun b => v.ownBlock = some b) w w' := by
  rcases h.1.2 with ⟨rfl, h0⟩ | ⟨g, cap, cur, rfl, hg, hh, h3, h4, h5, h6⟩
  · obtain rfl := List.eq_nil_of_length_eq_zero h0
    refine (Try.slices_Sort_int_none none 0 w).mono ?_
    rintro e w' ⟨rfl, rfl⟩
    exact ⟨rfl, by simpa [sortL] using h, Chg.refl _ _⟩
  · have hgw : g < w.heap.size := (Array.getElem?_eq_some_iff.1 hh).1
    have e1 : ∀ (zs : List Int) j, (hj : j < zs.length) → zs.toArray[j]! = zs[j] := fun zs j hj => by rw [getElem!_pos zs.toArray j (by simpa using hj)]; simp
    have hH : Holds (Value.int .i64) w g 0 ys.toArray := fun j hj => by
      have hj' : j < ys.length := by simpa using hj
      have hc := World.ownsRow.cells (g := g) h.1 rfl j (.int .i64 ys[j]) (by simp [hj'])
      rw [add_zero] at hc
      rw [e1 _ _ hj', Nat.zero_add]
      exact ⟨hc, by simp [World.frozen?, hh]⟩
    refine (Try.slices_Sort_int g 0 cap ys w hH hgw (by omega)).mono ?_
    rintro e w' ⟨rfl, q, os, rfl⟩
    refine ⟨rfl, ?_, ?_⟩
    · refine ⟨⟨by simp [sortL], .inr ⟨g, cap, putCells (Value.int .i64) 0 (sortL ys).toArray cur, by rw [sortL_length], hg, ?_, by rw [← sortL_length ys] at h3; simpa [sortL] using h3, h4, ?_, ?_⟩⟩, fun x hx => h.2 x (by simpa [sortL] using hx)⟩
      · unfold Go.Sort.grow Go.Sort.putRow Go.Sort.mapBlock Go.Sort.ahead
        simp only [Array.getElem?_append, Array.size_modify, hgw, if_true, Array.getElem?_modify, hh, Option.map_some]
        rfl
      · simpa [putCells] using h5
      · apply List.ext_getElem?
        intro k
        rw [List.getElem?_take]
        have hlk : ((sortL ys).map (Value.int .i64)).length = ys.length := by simp [sortL]
        have hcs : ys.length ≤ cur.size := by simp at h5; omega
        by_cases hk : k < ys.length
        · have hk2 : k < (sortL ys).length := by rw [sortL_length]; exact hk
          rw [if_pos (by simpa [sortL] using hk)]
          simp only [putCells, Array.getElem?_toList, Array.getElem?_mapIdx]
          rw [Array.getElem?_eq_getElem (by omega), Option.map_some, if_pos ⟨by omega, by simpa [sortL] using hk⟩, Nat.sub_zero, e1 _ _ hk2, List.getElem?_map, List.getElem?_eq_getElem hk2]
          rfl
        · rw [if_neg (by simpa [sortL] using hk), List.getElem?_eq_none (by omega)]
    · have h1 : Chg (fun b => (Value.slice (some ⟨g, 0, none⟩) ys.length cap).ownBlock = some b) w (Go.Sort.putRow (Value.int .i64) (Go.Sort.ahead w q) g 0 (sortL ys).toArray) :=
        Chg.trans ((Chg.refl _ w).ahead q) ((Chg.mapBlock _ g _).mono fun b _ hb => by subst hb; rfl)
      refine Chg.trans h1 ⟨rfl, rfl, rfl, by simp [Go.Sort.grow], fun i hi _ => ?_⟩
      unfold Go.Sort.grow
      simp only [Array.getElem?_append]
      exact if_pos hi
end Go.Proofs.Ytnjfhpgmogopnaa
namespace Go.Proofs.Ytnjfhpgmogopnaa
theorem once_rising {ys : List Int} (hs : ∀ i k, i ≤ k → k < ys.length → ix ys i ≤ ix ys k) : ∀ j, j ≤ ys.length → (onceL ys ys j).Pairwise (· < ·) ∧ ∀ z, z ∈ onceL ys ys j ↔ ∃ i, i < j ∧ ix ys i = z
  | 0, _ => by simp [onceL, keepTo]
  | j + 1, h => by
    obtain ⟨h1, h2⟩ := once_rising hs j (by omega)
    cases hk : keepB ys j with
    | true =>
      rw [onceL_yes hk]
      refine ⟨List.pairwise_append.2 ⟨h1, by simp, fun a ha b hb => ?_⟩, fun z => ?_⟩
      · obtain ⟨i, hi, rfl⟩ := (h2 a).1 ha
        obtain rfl : b = ix ys j := by simpa using hb
        have h3 := hs i (j - 1) (by omega) (by omega)
        have h4 := hs (j - 1) j (by omega) (by omega)
        unfold keepB at hk
        have h5 : ix ys j ≠ ix ys (j - 1) := by
          rw [decide_eq_false (show ¬ j = 0 by omega), Bool.false_or] at hk
          simpa using hk
        omega
      · rw [List.mem_append, h2 z]
        constructor
        · rintro (⟨i, hi, e⟩ | hz)
          · exact ⟨i, by omega, e⟩
          · exact ⟨j, by omega, (by simpa using hz : z = ix ys j).symm⟩
        · rintro ⟨i, hi, e⟩
          by_cases hij : i < j
          · exact .inl ⟨i, hij, e⟩
          · obtain rfl : i = j := by omega
            exact .inr (by simp [e])
    | false =>
      rw [onceL_no hk]
      refine ⟨h1, fun z => ?_⟩
      rw [h2 z]
      unfold keepB at hk
      rw [Bool.or_eq_false_iff] at hk
      have hj : ¬ j = 0 := of_decide_eq_false hk.1
      have he : ix ys j = ix ys (j - 1) := by simpa using hk.2
      constructor
      · rintro ⟨i, hi, e⟩; exact ⟨i, by omega, e⟩
      · rintro ⟨i, hi, e⟩
        by_cases hij : i < j
        · exact ⟨i, hij, e⟩
        · obtain rfl : i = j := by omega
          exact ⟨i - 1, by omega, by rw [← he]; exact e⟩
theorem once_sort (cs : List Int) : onceL (sortL cs) (sortL cs) (sortL cs).length = putL cs := by
  have hp : (sortL cs).Pairwise (· ≤ ·) := by
    unfold sortL
    refine (List.pairwise_mergeSort (le := fun x y => decide (x ≤ y)) (fun a b c h1 h2 => by simp at *; omega) (fun a b => by simp; omega) cs).imp (fun h => by simpa using h)
  have hs : ∀ i k, i ≤ k → k < (sortL cs).length → ix (sortL cs) i ≤ ix (sortL cs) k := fun i k h1 h2 => by
    rw [ix_eq h2, ix_eq (show i < (sortL cs).length by omega)]
    by_cases e : i = k
    · subst e; omega
    · exact List.pairwise_iff_getElem.1 hp i k (by omega) h2 (by omega)
  obtain ⟨h1, h2⟩ := once_rising hs _ (Nat.le_refl _)
  obtain ⟨h3, h4⟩ := putL_ok cs [] (by simp)
  refine rising_eq h1 h3 (fun z => ?_)
  rw [h2 z]
  refine Iff.trans ?_ (h4 z).symm
  have hm : z ∈ sortL cs ↔ z ∈ cs := by unfold sortL; exact List.mem_mergeSort
  constructor
  · rintro ⟨i, hi, e⟩
    refine .inr (hm.1 ?_)
    rw [← e, ix_eq hi]
    exact List.getElem_mem hi
  · rintro (h | h)
    · simp at h
    · obtain ⟨i, hi, e⟩ := List.getElem_of_mem (hm.2 h)
      exact ⟨i, hi, by rw [ix_eq hi]; exact e⟩
end Go.Proofs.Ytnjfhpgmogopnaa
namespace Go.Proofs.Ytnjfhpgmogopnaa
open Go.ChangeShapes Go.WideShapes Go.ChangeAt Go.RowKit
open Go.Sort Go.Lib
theorem Chg.mapBlock6 (w : World) (blk : Nat) (f : Array Value → Array Value) : Chg (fun b => b = blk) w (Go.Sort.mapBlock w blk f) :=
  ⟨rfl, rfl, rfl, by simp [Go.Sort.mapBlock], fun k _ hn => by
    simp only [Go.Sort.mapBlock, Array.getElem?_modify]
    rw [if_neg (fun h => hn h.symm)]⟩
theorem Chg.ahead6 {S : Nat → Prop} {a w : World} (h : Chg S a w) (n : Nat) : Chg S a (Go.Sort.ahead w n) := ⟨h.os, h.tape, h.output, h.size, h.block⟩
theorem get!_eq {xs : List Int} {j : Nat} (h : j < xs.length) : xs[j]! = xs[j] := getElem!_pos xs j h
theorem contains_any (w : World) (S : Nat → Prop) (v : Value) (xs : List Int) (x : Int) (h : Ints w S v xs) :
    Calls Try.prog 192 #[v, .int .i64 x] w fun e w' => e = .returned (.bool (decide (x ∈ xs))) ∧ w = w' := by
  obtain ⟨A, c, rfl, hlc, hcm, -, hr, -⟩ := h
  by_cases hz : 0 < xs.length
  · obtain ⟨b, o, rfl, -, -, hc⟩ := hr hz
    refine (Try.slices_Contains (Value.int .i64) (fun x y => decide (x = y)) (EqlAt.intD Try.prog 2 .i64) b o xs.length c xs x w (Nat.le_refl _) (by omega) (fun j hj => by rw [get!_eq hj]; exact (hc j hj).1)).mono ?_
    rintro e w' ⟨rfl, rfl⟩
    refine ⟨ret_bool ?_, rfl⟩
    rw [List.take_length, Bool.eq_iff_iff, List.any_eq_true, decide_eq_true_eq]
    simp
  · have hn : xs = [] := List.eq_nil_of_length_eq_zero (by omega)
    subst hn
    refine (Try.slices_Contains_empty (α := Int) A c (.int .i64 x) w).mono ?_
    rintro e w' ⟨rfl, rfl⟩
    exact ⟨rfl, rfl⟩
theorem compact_model (ys : List Int) : ∀ n, n ≤ ys.length → compactUpTo ys.toArray n = onceL ys ys n := by
  intro n
  induction n with
  | zero => intro _; rfl
  | succ n ih =>
    intro h
    have e1 : ∀ j, j < ys.length → ys.toArray[j]! = ix ys j := fun j hj => by rw [ix_eq hj, getElem!_pos ys.toArray j (by simpa using hj)]; simp
    have hk : keeps ys.toArray n = keepB ys n := by
      unfold keeps keepB
      rw [e1 n (by omega), e1 (n - 1) (by omega), Bool.eq_iff_iff]
      simp
    rw [compactUpTo_succ, ih (by omega), hk, e1 n (by omega)]
    cases hb : keepB ys n with
    | true => rw [onceL_yes hb]; rfl
    | false => rw [onceL_no hb]; simp
theorem compact_any (w : World) (base : Nat) (v : Value) (ys : List Int) (h : OwnI w base v ys) (hl : ys.length ≤ 1000000) (hv : ∃ g c, v = .slice (some ⟨g, 0, none⟩) ys.length c) :
    Calls Try.prog 159 #[v] w fun e w' => ∃ v', e = .returned v' ∧ Ints w' (New base w'.heap.size) v' (onceL ys ys ys.length) ∧ Chg (fun b => v.ownBlock = some b) w w' := by
  obtain ⟨g, c, rfl⟩ := hv
  have hg := h.1.lt g rfl
  obtain ⟨A', c', he, h1, h2, h3, h4, -⟩ := h.ints
  obtain ⟨rfl, rfl⟩ : some ⟨g, 0, none⟩ = A' ∧ c = c' := by simpa using he
  have e1 : ∀ (zs : List Int) j, (hj : j < zs.length) → zs.toArray[j]! = zs[j] := fun zs j hj => by rw [getElem!_pos zs.toArray j (by simpa using hj)]; simp
  have hH : Holds (Value.int .i64) w g 0 ys.toArray := fun j hj => by
    have hj' : j < ys.length := by simpa using hj
    obtain ⟨b, o, hA, -, -, hc⟩ := h4 (by omega)
    obtain ⟨rfl, rfl⟩ : g = b ∧ 0 = o := by simpa using hA
    rw [e1 _ _ hj']
    exact hc j hj'
  have hcm := compact_model ys ys.length (Nat.le_refl _)
  have hle := onceL_length ys ys ys.length
  have hmem : ∀ x ∈ onceL ys ys ys.length, I64 x := fun x hx => by
    obtain ⟨i, hi, rfl⟩ := List.mem_map.1 hx
    have := keepTo_mem hi
    rw [ix_eq this]
    exact h3 _ (List.getElem_mem this)
  refine (Try.slices_Compact (Value.int .i64) (fun _ => rfl) (EqlAt.intD Try.prog 2 .i64) (NeqAt.intD Try.prog 2 .i64) 0 Try.zeroValue2 g 0 c ys.toArray w hH (by simp; omega) (by simpa using h1)).mono ?_
  rintro e w' ⟨rfl, q, rfl⟩
  have hsz : ys.toArray.size = ys.length := by simp
  rw [hsz, hcm]
  obtain ⟨zs, hzs⟩ : ∃ zs, onceL ys ys ys.length ++ List.replicate (ys.length - (onceL ys ys ys.length).length) 0 = zs := ⟨_, rfl⟩
  have hzl : zs.length = ys.length := by rw [← hzs]; simp; omega
  have hHo := holds_putRow (Value.int .i64) (Go.Sort.ahead w q) g 0 ys.toArray zs.toArray (holds_ahead _ w q g 0 _ hH) (by simp [hzl])
  rw [hzs]
  refine ⟨_, rfl, ?_, ?_⟩
  · refine Ints.of_cells ⟨hg.1, by simpa using hg.2⟩ (by simpa using hg.2) (by omega) h2 hmem (fun t ht => ?_)
    have := hHo t (by simp; omega)
    rw [e1 _ _ (by omega), Nat.zero_add] at this
    have hg : zs[t]'(by omega) = (onceL ys ys ys.length)[t] := by subst hzs; rw [List.getElem_append_left ht]
    rw [hg] at this
    exact this
  · have hc := Chg.ahead6 (Chg.mapBlock6 w g (putCells (Value.int .i64) 0 zs.toArray)) q
    refine hc.mono (fun k _ hk => ?_)
    show some g = some k
    rw [hk]
end Go.Proofs.Ytnjfhpgmogopnaa
namespace Go.Proofs.Ytnjfhpgmogopnaa
def carsTo (rs : List RowM) (j : Nat) : List Int := (rs.take j).map fun r => r.c
theorem carsTo_succ {rs : List RowM} {j : Nat} (h : j < rs.length) : carsTo rs (j + 1) = carsTo rs j ++ [rs[j].c] := by
  unfold carsTo; rw [List.take_succ_eq_append_getElem h, List.map_append]; rfl
theorem carsTo_length {rs : List RowM} {j : Nat} (h : j ≤ rs.length) : (carsTo rs j).length = j := by unfold carsTo; simp; omega
theorem putL_append (cs ds : List Int) : putL (cs ++ ds) = ds.foldl (fun a x => insM x a) (putL cs) := by unfold putL; rw [List.foldl_append]
theorem putL_snoc (cs : List Int) (x : Int) : putL (cs ++ [x]) = insM x (putL cs) := by rw [putL_append]; rfl
theorem insM_len (x : Int) : ∀ ys : List Int, (insM x ys).length ≤ ys.length + 1
  | [] => by simp [insM]
  | y :: ys => by
    unfold insM
    have := insM_len x ys
    split
    · split <;> simp
    · simp; omega
theorem putL_len (cs : List Int) : ∀ a : List Int, (cs.foldl (fun a x => insM x a) a).length ≤ a.length + cs.length := by
  induction cs with
  | nil => intro a; simp
  | cons x cs ih =>
    intro a
    have h1 := ih (insM x a)
    have h2 := insM_len x a
    rw [List.foldl_cons, List.length_cons]
    omega
theorem putL_length (cs : List Int) : (putL cs).length ≤ cs.length := by have := putL_len cs []; simpa [putL] using this
theorem insM_has {x : Int} : ∀ {ys : List Int}, ys.Pairwise (· < ·) → x ∈ ys → insM x ys = ys
  | [], _, h => by simp at h
  | y :: ys, hp, h => by
    rw [List.pairwise_cons] at hp
    unfold insM
    by_cases e : y = x
    · subst e
      rw [if_pos (Int.le_refl _), if_neg (by omega)]
    · have hm : x ∈ ys := by
        rcases List.mem_cons.1 h with h1 | h1
        · exact absurd h1.symm e
        · exact h1
      have := hp.1 x hm
      rw [if_neg (by omega), insM_has hp.2 hm]
/-- what stands ahead of where a number goes, and behind it -/
def insA (x : Int) (ys : List Int) (j : Nat) : List Int := if (ys.take j).any (fun y => decide (y ≥ x)) then insM x (ys.take j) else ys.take j
theorem insM_snoc_hit {x y : Int} : ∀ {ys : List Int}, (ys.any fun z => decide (z ≥ x)) = true → insM x (ys ++ [y]) = insM x ys ++ [y]
  | [], h => by simp at h
  | z :: zs, h => by
    rw [List.cons_append]
    unfold insM
    by_cases hz : z ≥ x
    · rw [if_pos hz, if_pos hz]
      split <;> simp
    · rw [if_neg hz, if_neg hz, List.cons_append, insM_snoc_hit (by simpa [hz] using h)]
theorem insM_snoc_miss {x y : Int} : ∀ {ys : List Int}, (ys.any fun z => decide (z ≥ x)) = false → insM x (ys ++ [y]) = ys ++ insM x [y]
  | [], h => by simp
  | z :: zs, h => by
    have hz : ¬ z ≥ x := by simp at h; omega
    rw [List.cons_append, List.cons_append]
    conv => lhs; unfold insM
    rw [if_neg hz, insM_snoc_miss (by simp at h; simpa using h.2)]
theorem insM_miss {x : Int} : ∀ {ys : List Int}, (ys.any fun z => decide (z ≥ x)) = false → insM x ys = ys ++ [x]
  | [], h => by simp [insM]
  | z :: zs, h => by
    have hz : ¬ z ≥ x := by simp at h; omega
    unfold insM
    rw [if_neg hz, insM_miss (by simp at h; simpa using h.2)]; rfl
theorem anyT_succ (x : Int) {ys : List Int} {j : Nat} (h : j < ys.length) : ((ys.take (j + 1)).any fun z => decide (z ≥ x)) = ((ys.take j).any (fun z => decide (z ≥ x)) || decide (ys[j] ≥ x)) := by
  rw [List.take_succ_eq_append_getElem h, List.any_append]; simp
theorem insA_on {x : Int} {ys : List Int} {j : Nat} (h : j < ys.length) (hd : (ys.take j).any (fun z => decide (z ≥ x)) = true) : insA x ys (j + 1) = insA x ys j ++ [ys[j]] := by
  unfold insA
  rw [anyT_succ x h, hd, Bool.true_or, if_pos rfl, if_pos rfl, List.take_succ_eq_append_getElem h, insM_snoc_hit hd]
theorem insA_gt {x : Int} {ys : List Int} {j : Nat} (h : j < ys.length) (hd : (ys.take j).any (fun z => decide (z ≥ x)) = false) (hg : x < ys[j]) : insA x ys (j + 1) = (insA x ys j ++ [x]) ++ [ys[j]] := by
  unfold insA
  rw [anyT_succ x h, hd, Bool.false_or, decide_eq_true (by omega), if_pos rfl, if_neg (by simp), List.take_succ_eq_append_getElem h, insM_snoc_miss hd]
  simp [insM, hg]
  omega
theorem insA_eq {x : Int} {ys : List Int} {j : Nat} (h : j < ys.length) (hd : (ys.take j).any (fun z => decide (z ≥ x)) = false) (hg : x = ys[j]) : insA x ys (j + 1) = insA x ys j ++ [ys[j]] := by
  unfold insA
  rw [anyT_succ x h, hd, Bool.false_or, decide_eq_true (by omega), if_pos rfl, if_neg (by simp), List.take_succ_eq_append_getElem h, insM_snoc_miss hd]
  simp [insM, hg]
theorem insA_lt {x : Int} {ys : List Int} {j : Nat} (h : j < ys.length) (hd : (ys.take j).any (fun z => decide (z ≥ x)) = false) (hg : ys[j] < x) : insA x ys (j + 1) = insA x ys j ++ [ys[j]] := by
  unfold insA
  rw [anyT_succ x h, hd, Bool.false_or, decide_eq_false (by omega), if_neg (by simp), if_neg (by simp), List.take_succ_eq_append_getElem h]
theorem insA_hit {x : Int} {ys : List Int} (hd : (ys.take ys.length).any (fun z => decide (z ≥ x)) = true) : insA x ys ys.length = insM x ys := by
  unfold insA; rw [hd, if_pos rfl, List.take_length]
theorem insA_end {x : Int} {ys : List Int} (hd : (ys.take ys.length).any (fun z => decide (z ≥ x)) = false) : insA x ys ys.length ++ [x] = insM x ys := by
  rw [List.take_length] at hd
  unfold insA
  rw [List.take_length, hd, if_neg (by simp), insM_miss hd]
end Go.Proofs.Ytnjfhpgmogopnaa
set_option linter.unusedSimpArgs false
set_option linter.unusedVariables false
set_option maxRecDepth 100000
set_option maxHeartbeats 1000000
namespace Go.Proofs.Ytnjfhpgmogopnaa
open Go.ChangeShapes Go.WideShapes Go.ChangeAt Go.RowKit
theorem insA_len (x : Int) (ys : List Int) (j : Nat) : (insA x ys j).length ≤ ys.length + 1 := by
  unfold insA
  split
  · have := insM_len x (ys.take j); simp at this; omega
  · simp; omega
theorem insA_zero (x : Int) (ys : List Int) : insA x ys 0 = [] := by simp [insA]
theorem l00Put_any (w : World) (S : Nat → Prop) (v : Value) (ys : List Int) (x : Int) (h : Ints w S v ys) (hx : I64 x) (hl : ys.length ≤ 1000000) :
    Calls Try.prog 155 #[v, .int .i64 x] w fun e w' => ∃ v', e = .returned v' ∧ Ints w' (New w.heap.size w'.heap.size) v' (insM x ys) ∧ Up w w' := by
  obtain ⟨A, c, rfl, hlc, hcm, h64, hr, hnn⟩ := h
  have HX := Lib.hid hx
  have H64 := Lib.hid h64
  have HR := Lib.hid hr
  have HL0 : ∀ j, Hid ((insA x ys j).length ≤ 1099511627776) := fun j => Lib.hid (by have := insA_len x ys j; omega)
  clear h64 hr
  go_enter Try.func155, Try.ntmps155
  go_wp2
  go_loopw [5, 6, 7] (fun q d i wr => ∃ (j : Nat), j ≤ ys.length ∧ i = .int .i64 j ∧ d = .bool ((ys.take j).any fun z => decide (z ≥ x)) ∧ Hid (OwnI wr w.heap.size q (insA x ys j)) ∧ w.heap.size ≤ wr.heap.size ∧ Hid (Up w wr)) (fun _ _ i _ => ys.length - (intOf i).toNat)
  case atStart => exact ⟨0, by omega, rfl, by simp, Lib.hid (by rw [insA_zero]; exact OwnI.made w _ (Nat.le_refl _)), by simp, Lib.hid ((Chg.refl _ _).alloc _)⟩
  case round =>
    obtain ⟨j, hj, rfl, rfl, hq, hz, hu⟩ := hrel
    have HLJ := HL0 j
    have HLJ1 := HL0 (j + 1)
    by_cases hlt : j < ys.length
    · obtain ⟨b, o, rfl, -, -, hc⟩ := HR.out (by omega)
      have hcj := hu.out.cell (hc j hlt).1 id
      have HY := Lib.hid (H64.out _ (List.getElem_mem hlt))
      obtain ⟨y, hy⟩ : ∃ y, y = ys[j] := ⟨_, rfl⟩
      have HCW := Lib.hid ((hc j hlt).1)
      rw [← hy] at hcj HY HCW
      have HYE := Lib.hid hy
      clear hc hy
      cases hd : (ys.take j).any fun z => decide (z ≥ x) with
      | true =>
        have HN := Lib.hid (insA_on hlt hd)
        have HA := Lib.hid (show ((ys.take (j + 1)).any fun z => decide (z ≥ x)) = true by rw [anyT_succ x hlt, hd]; rfl)
        clear hd
        go_wp2_with (first | (at_builtin; refine wp_append_int rfl _ _ rfl w.heap.size _ (insA x ys j) rfl (hq.out.up (by repeat (first | exact Chg.refl _ _ | apply Chg.drew | apply Chg.drewN | refine Chg.alloc ?_ _))) _ y rfl (cell_at (by simp [World.size_alloc]) rfl) HY.out HLJ.out (by simp [World.size_alloc]; omega) ?_; intro v9 w9 ho9 _ hg9; have HO9 := Lib.hid ho9; have HG9 := Lib.hid hg9; clear ho9 hg9))
        go_roundw
        case rel => exact ⟨j + 1, by omega, by go_num, by rw [HA.out], Lib.hid (by rw [HN.out, ← HYE.out]; exact HO9.out), by have h9 := HG9.out.size; simp [World.size_alloc] at h9; omega, Lib.hid (Chg.new (hu.out.alloc _) HG9.out (fun i hi hh => by omega))⟩
        case measure => first | (simp [intOf]; done) | (simp [intOf]; omega)
      | false =>
        by_cases hge : y ≥ x
        · have HA := Lib.hid (show ((ys.take (j + 1)).any fun z => decide (z ≥ x)) = true by rw [anyT_succ x hlt, hd, ← HYE.out, decide_eq_true hge]; rfl)
          have t1 : decide (x ≤ y) = true := decide_eq_true hge
          by_cases hgt : x < y
          · have HN := Lib.hid (insA_gt hlt hd (by rw [← HYE.out]; exact hgt))
            have t2 : decide (x < y) = true := decide_eq_true hgt
            have HL2 : Hid ((insA x ys j ++ [x]).length ≤ 1099511627776) := Lib.hid (by have := HLJ1.out; rw [HN.out] at this; simp at this ⊢; omega)
            clear hd hge hgt
            go_wp2_with (first | (at_builtin; refine wp_append_int rfl _ _ rfl w.heap.size _ (insA x ys j ++ [x]) rfl (HO9.out.up (by repeat (first | exact Chg.refl _ _ | apply Chg.drew | apply Chg.drewN | refine Chg.alloc ?_ _))) _ y rfl (cell_at (by simp [World.size_alloc]) rfl) HY.out HL2.out (by simp [World.size_alloc]; omega) ?_; intro v8 w8 ho8 _ hg8; have HO8 := Lib.hid ho8; have HG8 := Lib.hid hg8; clear ho8 hg8) | (at_builtin; refine wp_append_int rfl _ _ rfl w.heap.size _ (insA x ys j) rfl (hq.out.up (by repeat (first | exact Chg.refl _ _ | apply Chg.drew | apply Chg.drewN | refine Chg.alloc ?_ _))) _ x rfl (cell_at (by simp [World.size_alloc]) rfl) HX.out HLJ.out (by simp [World.size_alloc]; omega) ?_; intro v9 w9 ho9 _ hg9; have HO9 := Lib.hid ho9; have HG9 := Lib.hid hg9; clear ho9 hg9; have hz9 : w.heap.size ≤ w9.heap.size := (by have h9 := HG9.out.size; simp [World.size_alloc] at h9; omega); have HU9 := Lib.hid (show Up w w9 from Chg.new (hu.out.alloc _) HG9.out (fun i hi hh => by omega)); have hcj9 := HU9.out.cell HCW.out id))
            go_roundw
            case rel => exact ⟨j + 1, by omega, by go_num, by rw [HA.out], Lib.hid (by rw [HN.out, ← HYE.out]; exact HO8.out), by have h9 := HG8.out.size; simp [World.size_alloc] at h9; omega, Lib.hid (Chg.new (HU9.out.alloc _) HG8.out (fun i hi hh => by omega))⟩
            case measure => first | (simp [intOf]; done) | (simp [intOf]; omega)
          · obtain rfl : x = y := by omega
            have HN := Lib.hid (insA_eq hlt hd HYE.out)
            have t2 : decide (x < x) = false := decide_eq_false (by omega)
            clear hd hge hgt
            go_wp2_with (first | (at_builtin; refine wp_append_int rfl _ _ rfl w.heap.size _ (insA x ys j) rfl (hq.out.up (by repeat (first | exact Chg.refl _ _ | apply Chg.drew | apply Chg.drewN | refine Chg.alloc ?_ _))) _ x rfl (cell_at (by simp [World.size_alloc]) rfl) HX.out HLJ.out (by simp [World.size_alloc]; omega) ?_; intro v9 w9 ho9 _ hg9; have HO9 := Lib.hid ho9; have HG9 := Lib.hid hg9; clear ho9 hg9))
            go_roundw
            case rel => exact ⟨j + 1, by omega, by go_num, by rw [HA.out], Lib.hid (by rw [HN.out, ← HYE.out]; exact HO9.out), by have h9 := HG9.out.size; simp [World.size_alloc] at h9; omega, Lib.hid (Chg.new (hu.out.alloc _) HG9.out (fun i hi hh => by omega))⟩
            case measure => first | (simp [intOf]; done) | (simp [intOf]; omega)
        · have HA := Lib.hid (show ((ys.take (j + 1)).any fun z => decide (z ≥ x)) = false by rw [anyT_succ x hlt, hd, ← HYE.out, decide_eq_false hge]; rfl)
          have t1 : decide (x ≤ y) = false := decide_eq_false hge
          have HN := Lib.hid (insA_lt hlt hd (by rw [← HYE.out]; omega))
          clear hd hge
          go_wp2_with (first | (at_builtin; refine wp_append_int rfl _ _ rfl w.heap.size _ (insA x ys j) rfl (hq.out.up (by repeat (first | exact Chg.refl _ _ | apply Chg.drew | apply Chg.drewN | refine Chg.alloc ?_ _))) _ y rfl (cell_at (by simp [World.size_alloc]) rfl) HY.out HLJ.out (by simp [World.size_alloc]; omega) ?_; intro v9 w9 ho9 _ hg9; have HO9 := Lib.hid ho9; have HG9 := Lib.hid hg9; clear ho9 hg9))
          go_roundw
          case rel => exact ⟨j + 1, by omega, by go_num, by rw [HA.out], Lib.hid (by rw [HN.out, ← HYE.out]; exact HO9.out), by have h9 := HG9.out.size; simp [World.size_alloc] at h9; omega, Lib.hid (Chg.new (hu.out.alloc _) HG9.out (fun i hi hh => by omega))⟩
          case measure => first | (simp [intOf]; done) | (simp [intOf]; omega)
    · obtain rfl : j = ys.length := by omega
      cases hd : (ys.take ys.length).any fun z => decide (z ≥ x) with
      | true =>
        have HN := Lib.hid (insA_hit hd)
        clear hd
        go_wp2
        go_ret
        exact ⟨_, rfl, by rw [← HN.out]; exact hq.out.ints, hu.out⟩
      | false =>
        have HN := Lib.hid (insA_end hd)
        clear hd
        go_wp2_with (first | (at_builtin; refine wp_append_int rfl _ _ rfl w.heap.size _ (insA x ys ys.length) rfl (hq.out.up (by repeat (first | exact Chg.refl _ _ | apply Chg.drew | apply Chg.drewN | refine Chg.alloc ?_ _))) _ x rfl (cell_at (by simp [World.size_alloc]) rfl) HX.out HLJ.out (by simp [World.size_alloc]; omega) ?_; intro v9 w9 ho9 _ hg9; have HO9 := Lib.hid ho9; have HG9 := Lib.hid hg9; clear ho9 hg9))
        go_wp2
        go_ret
        exact ⟨_, rfl, by rw [← HN.out]; exact HO9.out.ints, Chg.new (hu.out.alloc _) HG9.out (fun i hi hh => by omega)⟩
theorem OwnI.made' {w : World} {base : Nat} {v : Value} {xs : List Int} (h : OwnI w base v xs) (hp : 0 < xs.length) : ∃ g c, v = .slice (some ⟨g, 0, none⟩) xs.length c := by
  rcases h.1.2 with ⟨_, h0⟩ | ⟨g, cap, cur, rfl, _⟩
  · omega
  · exact ⟨g, cap, rfl⟩
theorem l24Carriers_any (w : World) (S : Nat → Prop) (b o : Nat) (c : ChartM) (h : ChartAt w S b o c) (hl : c.rs.length ≤ 8) :
    Calls Try.prog 91 #[.pointer (some ⟨b, o, none⟩)] w fun e w' => ∃ v', e = .returned v' ∧ Ints w' (New w.heap.size w'.heap.size) v' (putL (carsTo c.rs c.rs.length)) ∧ Up w w' := by
  obtain ⟨A, k, f1, f2, hr, hlk, hkm, -, -⟩ := h
  have HR0 := Lib.hid hr
  have F2 := Lib.hid f2
  clear hr f1
  go_enter Try.func91, Try.ntmps91
  go_wp2
  go_loopw [3, 4] (fun q i wr => ∃ (j : Nat), j ≤ c.rs.length ∧ i = .int .i64 j ∧ Hid (Ints wr (fun x => w.heap.size ≤ x) q (putL (carsTo c.rs j))) ∧ Hid (Up w wr)) (fun _ i _ => c.rs.length - (intOf i).toNat)
  case atStart => exact ⟨0, by omega, rfl, Lib.hid (Ints.nil _ _ _ _ (by omega)), Lib.hid ((Chg.refl _ _).alloc _)⟩
  case round =>
    obtain ⟨j, hj, rfl, hq, hu⟩ := hrel
    have f2 := hu.out.cell F2.out id
    by_cases hlt : j < c.rs.length
    · obtain ⟨b2, o2, rfl, hc⟩ := (HR0.out.up hu.out).at_ hlt
      obtain ⟨⟨rd, rc, rx⟩, hre⟩ : ∃ r, r = c.rs[j] := ⟨_, rfl⟩
      have hcj := hc j hlt
      rw [← hre] at hcj
      obtain ⟨A3, c3, g1, g2, g3, -, -, -, h64, -⟩ := hcj
      have HI := Lib.hid h64.2
      have HS : Hid (putL (carsTo c.rs (j + 1)) = insM rc (putL (carsTo c.rs j))) := Lib.hid (by rw [carsTo_succ hlt, putL_snoc, ← hre])
      have HL : Hid ((putL (carsTo c.rs j)).length ≤ 1000000) := Lib.hid (by have h1 := putL_length (carsTo c.rs j); rw [carsTo_length hj] at h1; omega)
      have hz0 := hu.out.size
      clear hc h64 hre g1 g3
      go_wp2_with fail
      refine (l00Put_any _ _ _ _ rc hq.out HI.out HL.out).mono ?_
      rintro e w2 ⟨v2, rfl, k2, u2⟩
      have K2 := Lib.hid (k2.mono (T := fun x => w.heap.size ≤ x) (fun x _ hx => by have := hx.1; omega))
      have U2 := Lib.hid (Chg.trans hu.out u2)
      clear k2 u2 g2 f2
      go_wp2
      go_roundw
      case rel => exact ⟨j + 1, by omega, by go_num, Lib.hid (by rw [HS.out]; exact K2.out), U2⟩
      case measure => first | (simp [intOf]; done) | (simp [intOf]; omega)
    · obtain rfl : j = c.rs.length := by omega
      go_wp2
      go_ret
      exact ⟨_, rfl, hq.out.mono (fun x hx h2 => ⟨h2, hx⟩), hu.out⟩
theorem carriersOf_any (w : World) (S : Nat → Prop) (v : Value) (c : ChartM) (h : ChartV w S v c) (hl : c.rs.length ≤ 8) :
    Calls Try.prog 94 #[v] w fun e w' => ∃ v', e = .returned v' ∧ Ints w' (New w.heap.size w'.heap.size) v' (putL (carsTo c.rs c.rs.length)) ∧ Up w w' := by
  obtain ⟨A, k, rfl, hr, hlk, hkm, -⟩ := h.shape
  have HR0 := Lib.hid (hr.mono (T := fun b => b < w.heap.size) fun _ h _ => h)
  have U0 := Lib.hid ((Chg.refl Nowhere w).alloc (.cells #[.int .i64 c.n, .slice A c.rs.length k] 57))
  have b1 : ((w.alloc (.cells #[.int .i64 c.n, .slice A c.rs.length k] 57)).alloc (.cells #[] 2)).cell? ⟨w.heap.size, 1, none⟩ = some (.slice A c.rs.length k) := Chg.cell ((Chg.refl Nowhere _).alloc (.cells #[] 2)) (cell_new _ _ _ _) id
  clear h hr
  go_enter Try.func94, Try.ntmps94
  go_wp2
  clear b1
  go_loopw [3, 10] (fun q i wr => ∃ (j : Nat), j ≤ c.rs.length ∧ i = .int .i64 j ∧ Hid (OwnI wr (w.heap.size + 1) q (carsTo c.rs j)) ∧ Hid (∃ g cc, q = .slice (some ⟨g, 0, none⟩) (carsTo c.rs j).length cc) ∧ Hid (Up w wr) ∧ w.heap.size + 1 ≤ wr.heap.size) (fun _ i _ => c.rs.length - (intOf i).toNat)
  case atStart =>
    have hm := OwnI.made (w.alloc (.cells #[.int .i64 c.n, .slice A c.rs.length k] 57)) (w.heap.size + 1) (by simp)
    rw [World.size_alloc w] at hm
    exact ⟨0, by omega, rfl, Lib.hid hm, Lib.hid ⟨_, _, rfl⟩, Lib.hid (U0.out.alloc _), by rw [World.size_alloc, World.size_alloc]; omega⟩
  case round =>
    obtain ⟨j, hj, rfl, hq, hs, hu, hz⟩ := hrel
    obtain ⟨gq, cq, rfl⟩ := hs.out
    by_cases hlt : j < c.rs.length
    · obtain ⟨b, o, rfl, hc⟩ := (HR0.out.up hu.out).at_ hlt
      obtain ⟨⟨rd, rc, rx⟩, hre⟩ : ∃ r, r = c.rs[j] := ⟨_, rfl⟩
      have hcj := hc j hlt
      rw [← hre] at hcj
      obtain ⟨A3, c3, f1, f2, f3, -, -, -, h64, -⟩ := hcj
      have HI := Lib.hid h64.2
      have HS : Hid (carsTo c.rs (j + 1) = carsTo c.rs j ++ [rc]) := Lib.hid (by rw [carsTo_succ hlt, ← hre])
      have HL : Hid ((carsTo c.rs j).length ≤ 1099511627776) := Lib.hid (by rw [carsTo_length hj]; omega)
      have UB := Lib.hid ((Chg.refl Nowhere wr).alloc (.cells #[.int .i64 rd, .int .i64 rc, .slice A3 rx.length c3] 87))
      clear hc h64 hre
      go_wp2_with (first | (at_builtin; refine wp_append_int2 rfl _ _ rfl (w.heap.size + 1) _ (carsTo c.rs j) rfl (hq.out.up (by repeat (first | exact Chg.refl _ _ | apply Chg.drew | apply Chg.drewN | refine Chg.alloc ?_ _))) _ rc rfl (cell_at (by simp [World.size_alloc]) rfl) HI.out HL.out (by simp [World.size_alloc]; omega) ?_; intro v9 w9 ho9 _ _ hg9; have HO9 := Lib.hid ho9; have HG9 := Lib.hid hg9; clear ho9 hg9))
      go_roundw
      case rel => exact ⟨j + 1, by omega, by go_num, Lib.hid (by rw [HS.out]; exact HO9.out), Lib.hid (by obtain ⟨g, cc, e⟩ := HO9.out.made' (by simp); exact ⟨g, cc, by rw [HS.out]; exact e⟩), Lib.hid (Chg.new ((hu.out.alloc _).alloc _) HG9.out (fun i hi hh => by omega)), by have h9 := HG9.out.size; simp [World.size_alloc] at h9; omega⟩
      case measure => first | (simp [intOf]; done) | (simp [intOf]; omega)
    · obtain rfl : j = c.rs.length := by omega
      have HL : Hid ((carsTo c.rs c.rs.length).length ≤ 1000000) := Lib.hid (by rw [carsTo_length hj]; omega)
      have HL2 : Hid ((sortL (carsTo c.rs c.rs.length)).length ≤ 1000000) := Lib.hid (by rw [sortL_length]; exact HL.out)
      have hlt := hq.out.lt rfl
      go_wp2_with fail
      refine (sort_any _ (w.heap.size + 1) _ (carsTo c.rs c.rs.length) hq.out HL.out).mono ?_
      rintro e w2 ⟨rfl, k2, g2⟩
      have K2 := Lib.hid k2
      have U2 := Lib.hid (Chg.new hu.out g2 (fun i hi hh => by have hh2 : some gq = some i := hh; injection hh2 with hh3; omega))
      clear k2 g2
      go_wp2_with fail
      refine (compact_any _ (w.heap.size + 1) _ (sortL (carsTo c.rs c.rs.length)) K2.out HL2.out ⟨gq, cq, by rw [sortL_length]⟩).mono ?_
      rintro e w3 ⟨v3, rfl, k3, g3⟩
      have K3 := Lib.hid k3
      have U3 := Lib.hid (Chg.new U2.out g3 (fun i hi hh => by have hh2 : some gq = some i := hh; injection hh2 with hh3; omega))
      clear k3 g3
      go_wp2
      go_ret
      refine ⟨_, rfl, ?_, U3.out⟩
      rw [← once_sort]
      exact K3.out.mono (fun x _ hx => ⟨by have := hx.1; omega, hx.2⟩)
def carsC (c : ChartM) : Int := if chartB c then 0 else 1
def carsO (c : ChartM) : List Int := if chartB c then putL (carsTo c.rs c.rs.length) else []
theorem cars_no {c : ChartM} (h : chartB c = false) : carsC c = 1 ∧ carsO c = [] := by unfold carsC carsO; rw [h]; exact ⟨rfl, rfl⟩
theorem cars_yes {c : ChartM} (h : chartB c = true) : carsC c = 0 ∧ carsO c = putL (carsTo c.rs c.rs.length) := by unfold carsC carsO; rw [h]; exact ⟨rfl, rfl⟩
theorem carsO_len (c : ChartM) : (carsO c).length ≤ 8 := by
  cases hb : chartB c with
  | false => rw [(cars_no hb).2]; simp
  | true =>
    rw [(cars_yes hb).2]
    have h1 := putL_length (carsTo c.rs c.rs.length)
    rw [carsTo_length (Nat.le_refl _)] at h1
    have := (chart_size hb).2
    omega
theorem CarriersOf_X (w : World) (S : Nat → Prop) (v : Value) (c : ChartM) (h0 : ChartX w S v c) :
    Calls Try.prog 24 #[v] w fun e w' => ∃ v', e = .returned (.tuple #[v', .int .i64 (carsC c)]) ∧ Ints w' (New w.heap.size w'.heap.size) v' (carsO c) ∧ Up w w' := by
  have h := h0.cv
  clear h0
  obtain ⟨A, k, rfl, -⟩ := h.shape
  have U0 := Lib.hid ((Chg.refl Nowhere w).alloc (.cells #[.int .i64 c.n, .slice A c.rs.length k] 57))
  have H := Lib.hid (h.up U0.out)
  have B0 := Lib.hid (show (w.alloc (.cells #[.int .i64 c.n, .slice A c.rs.length k] 57)).cell? ⟨w.heap.size, 0, none⟩ = some (.int .i64 c.n) ∧ (w.alloc (.cells #[.int .i64 c.n, .slice A c.rs.length k] 57)).cell? ⟨w.heap.size, 1, none⟩ = some (.slice A c.rs.length k) from ⟨cell_new _ _ _ _, cell_new _ _ _ _⟩)
  clear h
  go_enter Try.func24, Try.ntmps24
  go_wp2_with fail
  with_reducible refine (ValidChart_any _ _ _ c H.out).mono ?_
  rintro e w1 ⟨rfl, g1⟩
  have G1 := Lib.hid (Chg.trans U0.out g1)
  have q0 := Chg.cell g1 B0.out.1 id
  have q1 := Chg.cell g1 B0.out.2 id
  have H1 := Lib.hid (H.out.up g1)
  clear g1
  cases hb : chartB c with
  | false =>
    have HV := Lib.hid (cars_no hb)
    clear hb
    go_wp2
    go_ret2
    rw [HV.out.1, HV.out.2]
    exact ⟨_, rfl, Ints.nil _ _ _ _ (by omega), G1.out⟩
  | true =>
    have HV := Lib.hid (cars_yes hb)
    have HB := Lib.hid (chart_size hb).2
    clear hb
    go_wp2_with fail
    with_reducible refine (carriersOf_any _ _ _ c H1.out HB.out).mono ?_
    rintro e w2 ⟨v2, rfl, k2, g2⟩
    have hz := G1.out.size
    have K2 := Lib.hid (k2.mono (T := New w.heap.size w2.heap.size) (fun x _ hx => ⟨by have := hx.1; omega, hx.2⟩))
    have G2 := Lib.hid (Chg.trans G1.out g2)
    clear g2 k2 q0 q1
    go_wp2
    go_ret2
    rw [HV.out.1, HV.out.2]
    exact ⟨_, rfl, K2.out, G2.out⟩
theorem sCarriersOf_X (w : World) (S : Nat → Prop) (v : Value) (c : ChartM) (h0 : ChartX w S v c) :
    Calls Try.prog 22 #[v] w fun e w' => ∃ v', e = .returned (.tuple #[v', .int .i64 (carsC c)]) ∧ Ints w' (New w.heap.size w'.heap.size) v' (carsO c) ∧ Up w w' := by
  have h := h0.cv
  clear h0
  obtain ⟨A, k, rfl, -⟩ := h.shape
  have U0 := Lib.hid ((Chg.refl Nowhere w).alloc (.cells #[.int .i64 c.n, .slice A c.rs.length k] 57))
  have H := Lib.hid (h.up U0.out)
  have HB0 := Lib.hid h.box
  have B0 := Lib.hid (show (w.alloc (.cells #[.int .i64 c.n, .slice A c.rs.length k] 57)).cell? ⟨w.heap.size, 0, none⟩ = some (.int .i64 c.n) ∧ (w.alloc (.cells #[.int .i64 c.n, .slice A c.rs.length k] 57)).cell? ⟨w.heap.size, 1, none⟩ = some (.slice A c.rs.length k) from ⟨cell_new _ _ _ _, cell_new _ _ _ _⟩)
  obtain ⟨q0, q1⟩ := B0.out
  clear h
  go_enter Try.func22, Try.ntmps22
  go_wp2_with fail
  with_reducible refine (sValidChart_any _ _ _ c H.out).mono ?_
  rintro e w1 ⟨rfl, g1⟩
  have G1 := Lib.hid (Chg.trans U0.out g1)
  have H1 := Lib.hid (HB0.out.up g1)
  clear g1 q0 q1
  cases hb : chartB c with
  | false =>
    have HV := Lib.hid (cars_no hb)
    clear hb
    go_wp2
    go_ret2
    rw [HV.out.1, HV.out.2]
    exact ⟨_, rfl, Ints.nil _ _ _ _ (by omega), G1.out⟩
  | true =>
    have HV := Lib.hid (cars_yes hb)
    have HB := Lib.hid (chart_size hb).2
    clear hb
    go_wp2_with fail
    with_reducible refine (l24Carriers_any _ _ _ _ c H1.out HB.out).mono ?_
    rintro e w2 ⟨v2, rfl, k2, g2⟩
    have hz := G1.out.size
    have K2 := Lib.hid (k2.mono (T := New w.heap.size w2.heap.size) (fun x _ hx => ⟨by have := hx.1; omega, hx.2⟩))
    have G2 := Lib.hid (Chg.trans G1.out g2)
    clear g2 k2
    go_wp2
    go_ret2
    rw [HV.out.1, HV.out.2]
    exact ⟨_, rfl, K2.out, G2.out⟩
end Go.Proofs.Ytnjfhpgmogopnaa
namespace Go.Proofs.Ytnjfhpgmogopnaa
open Go.ChangeShapes Go.WideShapes Go.ChangeAt Go.RowKit Go.Deep
set_option maxRecDepth 100000 in
theorem dec_RowT {H : Type} {enc : TypeId × Value → H} {w : World} {n : Nat} {cs : List Value} {x : DataW H × List MemPlace}
    (h : DataW.trod enc Try.prog w 0 (fun _ => true) true n 201 cs = some x) (hz : ∀ b off, MemPlace.cell b off ∈ x.2 → w.frozen? ⟨b, off, none⟩ = false) :
    ∃ r : RowM, ∃ A c, cs = [.int .i64 r.d, .int .i64 r.c, .slice A r.xs.length c] ∧ Ints w (fun b => b < w.heap.size) (.slice A r.xs.length c) r.xs ∧ r.xs.length ≤ c ∧ c ≤ 9223372036854775807 ∧ I64 r.d ∧ I64 r.c := by
  obtain ⟨y0, y1, y2, m, rfl, hl, h0, h1, h2⟩ := trod_struct3 Try.underlying201 h
  have hl3 : cs.length = 3 := hl.trans (by kernel_rfl)
  obtain ⟨u0, u1, u2, rfl⟩ : ∃ a b c, cs = [a, b, c] := by
    match cs, hl3 with
    | [a, b, c], _ => exact ⟨a, b, c, rfl⟩
  have c1 : Try.prog.cellsOf 2 = 1 := by kernel_rfl
  have c2 : Try.prog.cellsOf 37 = 1 := by kernel_rfl
  simp only [c1, c2] at h0 h1 h2
  obtain ⟨a0, e0, -, w0⟩ := DataW.trod_int Try.underlying2 h0
  obtain ⟨a1, e1, -, w1⟩ := DataW.trod_int Try.underlying2 h1
  simp at e0 e1
  subst e0 e1
  obtain ⟨xs, hx⟩ := open_IntsT (u := u2) Try.underlying37 Try.underlying2 (by kernel_rfl) (by simpa using h2) (fun b off hm => hz b off (by simp [hm]))
  obtain ⟨A, c, rfl, k1, k2, k3⟩ := hx.shape
  exact ⟨⟨a0, a1, xs⟩, A, c, rfl, hx, k1, k2, I64.of_wf w0, I64.of_wf w1⟩
set_option maxRecDepth 100000 in
theorem open_RowsT {H : Type} {enc : TypeId × Value → H} {w : World} {n : Nat} {u : Value} {y : DataW H × List MemPlace}
    (h : DataW.trod enc Try.prog w 0 (fun _ => true) true n 49 [u] = some y) (hz : ∀ b off, MemPlace.cell b off ∈ y.2 → w.frozen? ⟨b, off, none⟩ = false) :
    ∃ rs, RowsV w (fun b => b < w.heap.size) u rs := by
  have hC : Try.prog.cellsOf 201 = 3 := by kernel_rfl
  rcases open_slice (e := 201) Try.underlying49 h with ⟨hcs, hx⟩ | ⟨a, len, cap, m, n, D, Pl, hcs, _, hl, hm, hmm, hx, hi⟩
  · simp at hcs
    subst hcs
    exact ⟨[], none, 0, rfl, by simp, by omega, fun h => by simp at h, by simp⟩
  · simp at hcs
    subst hcs
    simp at hmm
    rw [hC] at hi hx
    unfold Go.maxLen at hm
    obtain ⟨rs, hrl, hr⟩ := rows_of (Q := fun i (r : RowM) => ∃ A c, (∀ j v, ([Value.int .i64 r.d, .int .i64 r.c, .slice A r.xs.length c] : List Value)[j]? = some v → w.cell? (a.add (i * 3 + j)) = some v) ∧ Ints w (fun b => b < w.heap.size) (.slice A r.xs.length c) r.xs ∧ r.xs.length ≤ c ∧ c ≤ 9223372036854775807 ∧ I64 r.d ∧ I64 r.c) len (fun i hil => by
      obtain ⟨cs', hc, htr⟩ := hi i (by omega)
      obtain ⟨r, A, c, rfl, k1, k2⟩ := dec_RowT htr (fun b off hm9 => hz b off (by
        rw [hx]
        exact List.mem_append_right _ (List.mem_flatMap.2 ⟨i, by simp; omega, hm9⟩)))
      obtain ⟨_, hcl, hat⟩ := World.cells?_some hc
      refine ⟨r, A, c, fun j v hv => ?_, k1, k2⟩
      have hj : j < 3 := by
        obtain ⟨h1, _⟩ := List.getElem?_eq_some_iff.1 hv
        exact h1
      rw [← Go.Deep.add_add, hat j hj, hv])
    subst hrl
    refine ⟨rs, some a, cap, rfl, hl, by omega, fun hp => ?_, by simp⟩
    obtain ⟨b, o, s⟩ := a
    obtain ⟨A0, c0, q0, -⟩ := hr 0 hp
    have h0 := q0 0 _ rfl
    have hs : s = none := by simpa [Addr.add] using World.cell?_spot h0
    subst hs
    have hb : b < w.heap.size := by
      have := World.block_lt_of_cell? w _ h0
      simpa [Addr.add] using this
    refine ⟨b, o, rfl, hb, fun i hi' => ?_⟩
    obtain ⟨A, c, q, k1, k2, k3, k4⟩ := hr i hi'
    have g0 := q 0 _ rfl
    have g1 := q 1 _ rfl
    have g2 := q 2 _ rfl
    rw [Go.WideShapes.add_plain] at g0 g1 g2
    exact ⟨A, c, g0, g1, g2, k1, k2, k3, k4, hb⟩
set_option maxRecDepth 100000 in
theorem open_Chart {H : Type} {enc : TypeId × Value → H} {w : World} {v : Value} {d : DataW H} {p : List MemPlace} {base : Nat}
    (hv : Value.okWide Try.prog w .any base 51 v) (h : DataW.Trod enc Try.prog w 0 (fun _ => true) true 51 v d p)
    (hz : ∀ b off, MemPlace.cell b off ∈ p → w.frozen? ⟨b, off, none⟩ = false) : ∃ r, ChartV w (fun b => b < w.heap.size) v r := by
  obtain ⟨v0, v1, y0, y1, n, rfl, -, rfl, h0, h1⟩ := Go.Joins.open_agg2 Try.underlying51 (by kernel_rfl) (show Try.prog.cellsOf 51 = 2 by kernel_rfl) hv h
  obtain ⟨a0, e0, -, w0⟩ := DataW.trod_int Try.underlying2 h0
  simp only [List.cons.injEq, and_true] at e0
  subst e0
  obtain ⟨rs, hx⟩ := open_RowsT h1 (fun b off hm => hz b off (by simp [hm]))
  exact ⟨⟨a0, rs⟩, _, rfl, hx, I64.of_wf w0⟩
end Go.Proofs.Ytnjfhpgmogopnaa
namespace Go.Proofs.Ytnjfhpgmogopnaa
open Go.ChangeShapes Go.WideShapes Go.ChangeAt Go.RowKit
namespace fnExactCarriersOf
set_option linter.unusedVariables false in
set_option maxRecDepth 100000 in
set_option maxHeartbeats 8000000 in
theorem walk0 (w : World) (v0 : Value) (a0 : ChartM) (ha0 : ChartV w (fun b => b < w.heap.size) v0 a0)  (hbt : (cntRs a0.rs : Int) ≤ 1048576) :
    Calls Try.prog 5 #[v0] w fun e w' => e = .returned (.bool true) ∧ Below w.heap.size w w' := by
  have U0 := Lib.hid (Chg.refl Nowhere w)
  obtain ⟨A0, c0, rfl, y0, hl0, hc0⟩ := openChart ha0
  have X0 := Lib.hid ha0
  clear ha0 y0
  have U_1 := Lib.hid (Chg.trans U0.out ((Chg.refl Nowhere w).alloc (.cells #[.int .i64 a0.n, .slice A0 a0.rs.length c0] 51)))
  clear U0
  have X0_2 := Lib.hid (X0.out.up ((Chg.refl Nowhere w).alloc (.cells #[.int .i64 a0.n, .slice A0 a0.rs.length c0] 51)))
  clear X0
  have q0_0_3 := (show (w.alloc (.cells #[.int .i64 a0.n, .slice A0 a0.rs.length c0] 51)).cell? ⟨w.heap.size, 0, none⟩ = some (.int .i64 a0.n) from cell_new _ _ _ _)
  have q0_1_4 := (show (w.alloc (.cells #[.int .i64 a0.n, .slice A0 a0.rs.length c0] 51)).cell? ⟨w.heap.size, 1, none⟩ = some (.slice A0 a0.rs.length c0) from cell_new _ _ _ _)
  have hbx5 : w.heap.size < (w.alloc (.cells #[.int .i64 a0.n, .slice A0 a0.rs.length c0] 51)).heap.size := by simp
  have hr0 : cntRs a0.rs ≤ 1048576 := by omega
  go_enter Try.func5, Try.ntmps5
  have hd0 : decide ((1048576 : Int) - cntRs a0.rs < 0) = false := decide_eq_false (by omega)
  go_wp2_with fail
  refine (szChart_ok _ _ _ a0 (1048576) (by omega) (by omega) (X0_2.out.up (by repeat (first | exact Chg.refl _ _ | apply Chg.drew | apply Chg.drewN | refine Chg.alloc ?_ _)))).mono ?_
  rintro e w6 ⟨rfl, g1⟩
  have G1 := Lib.hid g1
  obtain ⟨hy6, hz6⟩ := up_pre (show Up (w.alloc (.cells #[.int .i64 a0.n, .slice A0 a0.rs.length c0] 51)) _ from (by repeat (first | exact Chg.refl _ _ | apply Chg.drew | apply Chg.drewN | refine Chg.alloc ?_ _))) G1.out
  clear g1
  have U_7 := Lib.hid (Chg.trans U_1.out (Chg.trans (by repeat (first | exact Chg.refl _ _ | apply Chg.drew | apply Chg.drewN | refine Chg.alloc ?_ _)) G1.out))
  clear U_1
  have X0_8 := Lib.hid (X0_2.out.up (Chg.trans (by repeat (first | exact Chg.refl _ _ | apply Chg.drew | apply Chg.drewN | refine Chg.alloc ?_ _)) G1.out))
  clear X0_2
  have q0_0_9 := Chg.cell (Chg.trans (by repeat (first | exact Chg.refl _ _ | apply Chg.drew | apply Chg.drewN | refine Chg.alloc ?_ _)) G1.out) q0_0_3 id
  clear q0_0_3
  have q0_1_10 := Chg.cell (Chg.trans (by repeat (first | exact Chg.refl _ _ | apply Chg.drew | apply Chg.drewN | refine Chg.alloc ?_ _)) G1.out) q0_1_4 id
  clear q0_1_4
  clear G1
  go_wp2_with fail
  refine (toChartX_any _ _ _ a0 (by omega) (X0_8.out.up (by repeat (first | exact Chg.refl _ _ | apply Chg.drew | apply Chg.drewN | refine Chg.alloc ?_ _)))).mono ?_
  rintro e w11 ⟨v11, rfl, k1, g1⟩
  have K1 := Lib.hid k1
  clear k1
  have G1 := Lib.hid g1
  obtain ⟨hy11, hz11⟩ := up_pre (show Up w6 _ from (by repeat (first | exact Chg.refl _ _ | apply Chg.drew | apply Chg.drewN | refine Chg.alloc ?_ _))) G1.out
  clear g1
  have U_12 := Lib.hid (Chg.trans U_7.out (Chg.trans (by repeat (first | exact Chg.refl _ _ | apply Chg.drew | apply Chg.drewN | refine Chg.alloc ?_ _)) G1.out))
  clear U_7
  have X0_13 := Lib.hid (X0_8.out.up (Chg.trans (by repeat (first | exact Chg.refl _ _ | apply Chg.drew | apply Chg.drewN | refine Chg.alloc ?_ _)) G1.out))
  clear X0_8
  have q0_0_14 := Chg.cell (Chg.trans (by repeat (first | exact Chg.refl _ _ | apply Chg.drew | apply Chg.drewN | refine Chg.alloc ?_ _)) G1.out) q0_0_9 id
  clear q0_0_9
  have q0_1_15 := Chg.cell (Chg.trans (by repeat (first | exact Chg.refl _ _ | apply Chg.drew | apply Chg.drewN | refine Chg.alloc ?_ _)) G1.out) q0_1_10 id
  clear q0_1_10
  clear G1
  have B0_16 := Lib.hid (K1.out)
  clear K1
  obtain ⟨As11, cs11, rfl, ys11, hls11, hcs11⟩ := openChartX B0_16.out
  clear ys11
  go_wp2_with fail
  refine (sCarriersOf_X _ _ _ a0 (B0_16.out.up (by repeat (first | exact Chg.refl _ _ | apply Chg.drew | apply Chg.drewN | refine Chg.alloc ?_ _)))).mono ?_
  rintro e w17 ⟨v17, rfl, k1, g1⟩
  obtain ⟨A17, c17, rfl, hl17, hc17, -⟩ := k1.shape
  have K1 := Lib.hid k1
  clear k1
  have G1 := Lib.hid g1
  obtain ⟨hy17, hz17⟩ := up_pre (show Up w11 _ from (by repeat (first | exact Chg.refl _ _ | apply Chg.drew | apply Chg.drewN | refine Chg.alloc ?_ _))) G1.out
  clear g1
  have U_18 := Lib.hid (Chg.trans U_12.out (Chg.trans (by repeat (first | exact Chg.refl _ _ | apply Chg.drew | apply Chg.drewN | refine Chg.alloc ?_ _)) G1.out))
  clear U_12
  have X0_19 := Lib.hid (X0_13.out.up (Chg.trans (by repeat (first | exact Chg.refl _ _ | apply Chg.drew | apply Chg.drewN | refine Chg.alloc ?_ _)) G1.out))
  clear X0_13
  have q0_0_20 := Chg.cell (Chg.trans (by repeat (first | exact Chg.refl _ _ | apply Chg.drew | apply Chg.drewN | refine Chg.alloc ?_ _)) G1.out) q0_0_14 id
  clear q0_0_14
  have q0_1_21 := Chg.cell (Chg.trans (by repeat (first | exact Chg.refl _ _ | apply Chg.drew | apply Chg.drewN | refine Chg.alloc ?_ _)) G1.out) q0_1_15 id
  clear q0_1_15
  have B0_22 := Lib.hid (B0_16.out.up (Chg.trans (by repeat (first | exact Chg.refl _ _ | apply Chg.drew | apply Chg.drewN | refine Chg.alloc ?_ _)) G1.out))
  clear B0_16
  clear G1
  have W0_23 := Lib.hid (K1.out)
  clear K1
  clear B0_22
  go_wp2_with fail
  refine (toChartX_any _ _ _ a0 (by omega) (X0_19.out.up (by repeat (first | exact Chg.refl _ _ | apply Chg.drew | apply Chg.drewN | refine Chg.alloc ?_ _)))).mono ?_
  rintro e w24 ⟨v24, rfl, k1, g1⟩
  have K1 := Lib.hid k1
  clear k1
  have G1 := Lib.hid g1
  obtain ⟨hy24, hz24⟩ := up_pre (show Up w17 _ from (by repeat (first | exact Chg.refl _ _ | apply Chg.drew | apply Chg.drewN | refine Chg.alloc ?_ _))) G1.out
  clear g1
  have U_25 := Lib.hid (Chg.trans U_18.out (Chg.trans (by repeat (first | exact Chg.refl _ _ | apply Chg.drew | apply Chg.drewN | refine Chg.alloc ?_ _)) G1.out))
  clear U_18
  have X0_26 := Lib.hid (X0_19.out.up (Chg.trans (by repeat (first | exact Chg.refl _ _ | apply Chg.drew | apply Chg.drewN | refine Chg.alloc ?_ _)) G1.out))
  clear X0_19
  have q0_0_27 := Chg.cell (Chg.trans (by repeat (first | exact Chg.refl _ _ | apply Chg.drew | apply Chg.drewN | refine Chg.alloc ?_ _)) G1.out) q0_0_20 id
  clear q0_0_20
  have q0_1_28 := Chg.cell (Chg.trans (by repeat (first | exact Chg.refl _ _ | apply Chg.drew | apply Chg.drewN | refine Chg.alloc ?_ _)) G1.out) q0_1_21 id
  clear q0_1_21
  have W0_29 := Lib.hid (W0_23.out.up (Chg.trans (by repeat (first | exact Chg.refl _ _ | apply Chg.drew | apply Chg.drewN | refine Chg.alloc ?_ _)) G1.out))
  clear W0_23
  clear G1
  have C0_30 := Lib.hid (K1.out)
  clear K1
  obtain ⟨As24, cs24, rfl, ys24, hls24, hcs24⟩ := openChartX C0_30.out
  clear ys24
  go_wp2_with fail
  refine (CarriersOf_X _ _ _ a0 (C0_30.out.up (by repeat (first | exact Chg.refl _ _ | apply Chg.drew | apply Chg.drewN | refine Chg.alloc ?_ _)))).mono ?_
  rintro e w31 ⟨v31, rfl, k1, g1⟩
  obtain ⟨A31, c31, rfl, hl31, hc31, -⟩ := k1.shape
  have K1 := Lib.hid k1
  clear k1
  have G1 := Lib.hid g1
  obtain ⟨hy31, hz31⟩ := up_pre (show Up w24 _ from (by repeat (first | exact Chg.refl _ _ | apply Chg.drew | apply Chg.drewN | refine Chg.alloc ?_ _))) G1.out
  clear g1
  have U_32 := Lib.hid (Chg.trans U_25.out (Chg.trans (by repeat (first | exact Chg.refl _ _ | apply Chg.drew | apply Chg.drewN | refine Chg.alloc ?_ _)) G1.out))
  clear U_25
  have X0_33 := Lib.hid (X0_26.out.up (Chg.trans (by repeat (first | exact Chg.refl _ _ | apply Chg.drew | apply Chg.drewN | refine Chg.alloc ?_ _)) G1.out))
  clear X0_26
  have q0_0_34 := Chg.cell (Chg.trans (by repeat (first | exact Chg.refl _ _ | apply Chg.drew | apply Chg.drewN | refine Chg.alloc ?_ _)) G1.out) q0_0_27 id
  clear q0_0_27
  have q0_1_35 := Chg.cell (Chg.trans (by repeat (first | exact Chg.refl _ _ | apply Chg.drew | apply Chg.drewN | refine Chg.alloc ?_ _)) G1.out) q0_1_28 id
  clear q0_1_28
  have W0_36 := Lib.hid (W0_29.out.up (Chg.trans (by repeat (first | exact Chg.refl _ _ | apply Chg.drew | apply Chg.drewN | refine Chg.alloc ?_ _)) G1.out))
  clear W0_29
  have C0_37 := Lib.hid (C0_30.out.up (Chg.trans (by repeat (first | exact Chg.refl _ _ | apply Chg.drew | apply Chg.drewN | refine Chg.alloc ?_ _)) G1.out))
  clear C0_30
  obtain ⟨x0_0_38c, x0_0_38f⟩ := (show CellF w31 ⟨w24.heap.size, 0, none⟩ (.int .i64 a0.n) from CellF.up G1.out (by repeat (first | ((refine cellF_at ?_ rfl); (simp; done)) | refine CellF.up ((Chg.refl _ _).alloc _) ?_)))
  obtain ⟨x0_1_39c, x0_1_39f⟩ := (show CellF w31 ⟨w24.heap.size, 1, none⟩ (.slice As24 a0.rs.length cs24) from CellF.up G1.out (by repeat (first | ((refine cellF_at ?_ rfl); (simp; done)) | refine CellF.up ((Chg.refl _ _).alloc _) ?_)))
  clear G1
  have R0_40 := Lib.hid (K1.out)
  clear K1
  go_wp2_with fail
  refine (eqInts _ _ _ _ _ (carsO a0) (R0_40.out.up (by repeat (first | exact Chg.refl _ _ | apply Chg.drew | apply Chg.drewN | refine Chg.alloc ?_ _))) (W0_36.out.up (by repeat (first | exact Chg.refl _ _ | apply Chg.drew | apply Chg.drewN | refine Chg.alloc ?_ _)))).mono ?_
  rintro e w41 ⟨rfl, g1⟩
  have G1 := Lib.hid g1
  obtain ⟨hy41, hz41⟩ := up_pre (show Up w31 _ from (by repeat (first | exact Chg.refl _ _ | apply Chg.drew | apply Chg.drewN | refine Chg.alloc ?_ _))) G1.out
  clear g1
  have U_42 := Lib.hid (Chg.trans U_32.out (Chg.trans (by repeat (first | exact Chg.refl _ _ | apply Chg.drew | apply Chg.drewN | refine Chg.alloc ?_ _)) G1.out))
  clear U_32
  have X0_43 := Lib.hid (X0_33.out.up (Chg.trans (by repeat (first | exact Chg.refl _ _ | apply Chg.drew | apply Chg.drewN | refine Chg.alloc ?_ _)) G1.out))
  clear X0_33
  have q0_0_44 := Chg.cell (Chg.trans (by repeat (first | exact Chg.refl _ _ | apply Chg.drew | apply Chg.drewN | refine Chg.alloc ?_ _)) G1.out) q0_0_34 id
  clear q0_0_34
  have q0_1_45 := Chg.cell (Chg.trans (by repeat (first | exact Chg.refl _ _ | apply Chg.drew | apply Chg.drewN | refine Chg.alloc ?_ _)) G1.out) q0_1_35 id
  clear q0_1_35
  have W0_46 := Lib.hid (W0_36.out.up (Chg.trans (by repeat (first | exact Chg.refl _ _ | apply Chg.drew | apply Chg.drewN | refine Chg.alloc ?_ _)) G1.out))
  clear W0_36
  have C0_47 := Lib.hid (C0_37.out.up (Chg.trans (by repeat (first | exact Chg.refl _ _ | apply Chg.drew | apply Chg.drewN | refine Chg.alloc ?_ _)) G1.out))
  clear C0_37
  obtain ⟨x0_0_48c, x0_0_48f⟩ := CellF.up (Chg.trans (by repeat (first | exact Chg.refl _ _ | apply Chg.drew | apply Chg.drewN | refine Chg.alloc ?_ _)) G1.out) ⟨x0_0_38c, x0_0_38f⟩
  clear x0_0_38c x0_0_38f
  obtain ⟨x0_1_49c, x0_1_49f⟩ := CellF.up (Chg.trans (by repeat (first | exact Chg.refl _ _ | apply Chg.drew | apply Chg.drewN | refine Chg.alloc ?_ _)) G1.out) ⟨x0_1_39c, x0_1_39f⟩
  clear x0_1_39c x0_1_39f
  have R0_50 := Lib.hid (R0_40.out.up (Chg.trans (by repeat (first | exact Chg.refl _ _ | apply Chg.drew | apply Chg.drewN | refine Chg.alloc ?_ _)) G1.out))
  clear R0_40
  clear G1
  go_wp2
  go_region_held3 (fun w' => w'.cell? ⟨w.heap.size, 0, none⟩ = some (.int .i64 a0.n) ∧ w'.cell? ⟨w.heap.size, 1, none⟩ = some (.slice A0 a0.rs.length c0) ∧ w'.cell? ⟨w24.heap.size, 0, none⟩ = some (.int .i64 a0.n) ∧ w'.cell? ⟨w24.heap.size, 1, none⟩ = some (.slice As24 a0.rs.length cs24))
      (first | (exact ⟨q0_0_44, q0_1_45, x0_0_48c, x0_1_49c⟩) | (obtain ⟨p0, p1, p2, p3⟩ : (World.cell? _ _ = _ ∧ World.cell? _ _ = _ ∧ World.cell? _ _ = _ ∧ World.cell? _ _ = _) := (by assumption); exact ⟨Chg.cell g1 p0 id, Chg.cell g1 p1 id, Chg.cell g1 p2 id, Chg.cell g1 p3 id⟩))
      (first | (go_at_call 23; refine (toChartX_any _ _ _ a0 (by omega) (X0_43.out.up (by repeat (first | exact Chg.refl _ _ | apply Chg.drew | apply Chg.drewN | refine Chg.alloc ?_ _)))).mono ?_; rintro e w51 ⟨v51, rfl, k1, g1⟩; obtain ⟨As51, cs51, rfl, ys51, hls51, hcs51⟩ := openChartX k1; have K1 := Lib.hid k1; clear k1 ys51; have G1 := Lib.hid g1; obtain ⟨hy51, hz51⟩ := up_pre (show Up w41 _ from (by repeat (first | exact Chg.refl _ _ | apply Chg.drew | apply Chg.drewN | refine Chg.alloc ?_ _))) G1.out; have U_53 := Lib.hid (Chg.trans U_42.out (Chg.trans (by repeat (first | exact Chg.refl _ _ | apply Chg.drew | apply Chg.drewN | refine Chg.alloc ?_ _)) G1.out)); have X0_54 := Lib.hid (X0_43.out.up (Chg.trans (by repeat (first | exact Chg.refl _ _ | apply Chg.drew | apply Chg.drewN | refine Chg.alloc ?_ _)) G1.out)); have W0_55 := Lib.hid (W0_46.out.up (Chg.trans (by repeat (first | exact Chg.refl _ _ | apply Chg.drew | apply Chg.drewN | refine Chg.alloc ?_ _)) G1.out)); have C0_56 := Lib.hid (C0_47.out.up (Chg.trans (by repeat (first | exact Chg.refl _ _ | apply Chg.drew | apply Chg.drewN | refine Chg.alloc ?_ _)) G1.out)); have R0_57 := Lib.hid (R0_50.out.up (Chg.trans (by repeat (first | exact Chg.refl _ _ | apply Chg.drew | apply Chg.drewN | refine Chg.alloc ?_ _)) G1.out))) | (go_at_call 26; refine (eqChartX_same _ _ _ _ _ a0 (C0_56.out.up (by repeat (first | exact Chg.refl _ _ | apply Chg.drew | apply Chg.drewN | refine Chg.alloc ?_ _))) (K1.out.up (by repeat (first | exact Chg.refl _ _ | apply Chg.drew | apply Chg.drewN | refine Chg.alloc ?_ _)))).mono ?_; rintro e w52 ⟨rfl, g1⟩; have G2 := Lib.hid g1; obtain ⟨hy52, hz52⟩ := up_pre (show Up w51 _ from (by repeat (first | exact Chg.refl _ _ | apply Chg.drew | apply Chg.drewN | refine Chg.alloc ?_ _))) G2.out; have U_58 := Lib.hid (Chg.trans U_53.out (Chg.trans (by repeat (first | exact Chg.refl _ _ | apply Chg.drew | apply Chg.drewN | refine Chg.alloc ?_ _)) G2.out)); have X0_59 := Lib.hid (X0_54.out.up (Chg.trans (by repeat (first | exact Chg.refl _ _ | apply Chg.drew | apply Chg.drewN | refine Chg.alloc ?_ _)) G2.out)); have W0_60 := Lib.hid (W0_55.out.up (Chg.trans (by repeat (first | exact Chg.refl _ _ | apply Chg.drew | apply Chg.drewN | refine Chg.alloc ?_ _)) G2.out)); have C0_61 := Lib.hid (C0_56.out.up (Chg.trans (by repeat (first | exact Chg.refl _ _ | apply Chg.drew | apply Chg.drewN | refine Chg.alloc ?_ _)) G2.out)); have R0_62 := Lib.hid (R0_57.out.up (Chg.trans (by repeat (first | exact Chg.refl _ _ | apply Chg.drew | apply Chg.drewN | refine Chg.alloc ?_ _)) G2.out))))
  have q0_0_63 := Chg.cell (Chg.trans (Chg.trans (by repeat (first | exact Chg.refl _ _ | apply Chg.drew | apply Chg.drewN | refine Chg.alloc ?_ _)) G1.out) (Chg.trans (by repeat (first | exact Chg.refl _ _ | apply Chg.drew | apply Chg.drewN | refine Chg.alloc ?_ _)) G2.out)) q0_0_44 id
  have q0_1_64 := Chg.cell (Chg.trans (Chg.trans (by repeat (first | exact Chg.refl _ _ | apply Chg.drew | apply Chg.drewN | refine Chg.alloc ?_ _)) G1.out) (Chg.trans (by repeat (first | exact Chg.refl _ _ | apply Chg.drew | apply Chg.drewN | refine Chg.alloc ?_ _)) G2.out)) q0_1_45 id
  obtain ⟨x0_0_65c, x0_0_65f⟩ := CellF.up (Chg.trans (Chg.trans (by repeat (first | exact Chg.refl _ _ | apply Chg.drew | apply Chg.drewN | refine Chg.alloc ?_ _)) G1.out) (Chg.trans (by repeat (first | exact Chg.refl _ _ | apply Chg.drew | apply Chg.drewN | refine Chg.alloc ?_ _)) G2.out)) ⟨x0_0_48c, x0_0_48f⟩
  obtain ⟨x0_1_66c, x0_1_66f⟩ := CellF.up (Chg.trans (Chg.trans (by repeat (first | exact Chg.refl _ _ | apply Chg.drew | apply Chg.drewN | refine Chg.alloc ?_ _)) G1.out) (Chg.trans (by repeat (first | exact Chg.refl _ _ | apply Chg.drew | apply Chg.drewN | refine Chg.alloc ?_ _)) G2.out)) ⟨x0_1_49c, x0_1_49f⟩
  clear g1 G1 G2 K1
  clear U_42
  clear X0_43
  clear q0_0_44
  clear q0_1_45
  clear W0_46
  clear C0_47
  clear x0_0_48c x0_0_48f
  clear x0_1_49c x0_1_49f
  clear R0_50
  clear U_53
  clear X0_54
  clear W0_55
  clear C0_56
  clear R0_57
  have hp0 : (0 : Int) ≤ (1 : Int) := by omega
  have hr0' : cntC a0.rs ≤ 8388608 := by have := cntC_le a0.rs; omega
  have hq0 : (1 : Int) + cntC a0.rs ≤ 4611686018427387904 := by omega
  go_wp2_with fail
  refine (markChartX_any _ _ _ a0 ((1 : Int)) hp0 hq0 (C0_61.out.up (by repeat (first | exact Chg.refl _ _ | apply Chg.drew | apply Chg.drewN | refine Chg.alloc ?_ _)))).mono ?_
  rintro e w67 ⟨rfl, g1⟩
  have G1 := Lib.hid g1
  obtain ⟨hy67, hz67⟩ := up_pre (show Up w52 _ from (by repeat (first | exact Chg.refl _ _ | apply Chg.drew | apply Chg.drewN | refine Chg.alloc ?_ _))) G1.out
  clear g1
  clear C0_61
  clear x0_0_65c x0_0_65f
  clear x0_1_66c x0_1_66f
  have U_68 := Lib.hid (Chg.new (Chg.trans U_58.out (by repeat (first | exact Chg.refl _ _ | apply Chg.drew | apply Chg.drewN | refine Chg.alloc ?_ _))) G1.out (fun i hi h2 => by simp only [New] at h2; first | omega | (simp at h2; omega)))
  clear U_58
  have X0_69 := Lib.hid ((X0_59.out.up (by repeat (first | exact Chg.refl _ _ | apply Chg.drew | apply Chg.drewN | refine Chg.alloc ?_ _))).keep G1.out (fun b hb h1 h2 => by simp only [New] at h1 h2; first | omega | (simp at h1 h2; omega)))
  clear X0_59
  have W0_70 := Lib.hid ((W0_60.out.up (by repeat (first | exact Chg.refl _ _ | apply Chg.drew | apply Chg.drewN | refine Chg.alloc ?_ _))).keep G1.out (fun b hb h1 h2 => by simp only [New] at h1 h2; first | omega | (simp at h1 h2; omega)))
  clear W0_60
  have R0_71 := Lib.hid ((R0_62.out.up (by repeat (first | exact Chg.refl _ _ | apply Chg.drew | apply Chg.drewN | refine Chg.alloc ?_ _))).keep G1.out (fun b hb h1 h2 => by simp only [New] at h1 h2; first | omega | (simp at h1 h2; omega)))
  clear R0_62
  have q0_0_72 := Chg.cell G1.out (Chg.cell (S := Nowhere) (by repeat (first | exact Chg.refl _ _ | apply Chg.drew | apply Chg.drewN | refine Chg.alloc ?_ _)) q0_0_63 id) (fun h2 => by simp only [New] at h2; first | omega | (simp at h2; omega))
  clear q0_0_63
  have q0_1_73 := Chg.cell G1.out (Chg.cell (S := Nowhere) (by repeat (first | exact Chg.refl _ _ | apply Chg.drew | apply Chg.drewN | refine Chg.alloc ?_ _)) q0_1_64 id) (fun h2 => by simp only [New] at h2; first | omega | (simp at h2; omega))
  clear q0_1_64
  clear G1
  have hneg : decide (((1 : Int) + cntC a0.rs : Int) < 0) = false := decide_eq_false (by omega)
  go_wp2_with fail
  refine (eqInts _ _ _ _ _ (carsO a0) (R0_71.out.up (by repeat (first | exact Chg.refl _ _ | apply Chg.drew | apply Chg.drewN | refine Chg.alloc ?_ _))) (W0_70.out.up (by repeat (first | exact Chg.refl _ _ | apply Chg.drew | apply Chg.drewN | refine Chg.alloc ?_ _)))).mono ?_
  rintro e w74 ⟨rfl, g1⟩
  have G1 := Lib.hid g1
  obtain ⟨hy74, hz74⟩ := up_pre (show Up w67 _ from (by repeat (first | exact Chg.refl _ _ | apply Chg.drew | apply Chg.drewN | refine Chg.alloc ?_ _))) G1.out
  clear g1
  have U_75 := Lib.hid (Chg.trans U_68.out (Chg.trans (by repeat (first | exact Chg.refl _ _ | apply Chg.drew | apply Chg.drewN | refine Chg.alloc ?_ _)) G1.out))
  clear U_68
  have X0_76 := Lib.hid (X0_69.out.up (Chg.trans (by repeat (first | exact Chg.refl _ _ | apply Chg.drew | apply Chg.drewN | refine Chg.alloc ?_ _)) G1.out))
  clear X0_69
  have W0_77 := Lib.hid (W0_70.out.up (Chg.trans (by repeat (first | exact Chg.refl _ _ | apply Chg.drew | apply Chg.drewN | refine Chg.alloc ?_ _)) G1.out))
  clear W0_70
  have R0_78 := Lib.hid (R0_71.out.up (Chg.trans (by repeat (first | exact Chg.refl _ _ | apply Chg.drew | apply Chg.drewN | refine Chg.alloc ?_ _)) G1.out))
  clear R0_71
  have q0_0_79 := Chg.cell (Chg.trans (by repeat (first | exact Chg.refl _ _ | apply Chg.drew | apply Chg.drewN | refine Chg.alloc ?_ _)) G1.out) q0_0_72 id
  clear q0_0_72
  have q0_1_80 := Chg.cell (Chg.trans (by repeat (first | exact Chg.refl _ _ | apply Chg.drew | apply Chg.drewN | refine Chg.alloc ?_ _)) G1.out) q0_1_73 id
  clear q0_1_73
  clear G1
  clear hneg
  have HR := Lib.hid (show cntInts (carsO a0) ≤ 9000000 by have := carsO_len a0; unfold cntInts; omega)
  have hr1_0 : (0 : Int) ≤ 1 := by omega
  have hr2_0 : (1 : Int) + cntInts (carsO a0) ≤ 4611686018427387904 := by have := HR.out; omega
  go_wp2_with fail
  refine (markInts _ _ _ (carsO a0) (1) hr1_0 hr2_0 (R0_78.out.up (by repeat (first | exact Chg.refl _ _ | apply Chg.drew | apply Chg.drewN | refine Chg.alloc ?_ _)))).mono ?_
  rintro e w81 ⟨rfl, g1, k1⟩
  have G1 := Lib.hid g1
  obtain ⟨hy81, hz81⟩ := up_pre (show Up w74 _ from (by repeat (first | exact Chg.refl _ _ | apply Chg.drew | apply Chg.drewN | refine Chg.alloc ?_ _))) G1.out
  have K1 := Lib.hid k1
  clear g1 k1
  clear R0_78
  have U_82 := Lib.hid (Chg.new (Chg.trans U_75.out (by repeat (first | exact Chg.refl _ _ | apply Chg.drew | apply Chg.drewN | refine Chg.alloc ?_ _))) G1.out (fun i hi h2 => by simp only [New] at h2; first | omega | (simp at h2; omega)))
  clear U_75
  have X0_83 := Lib.hid ((X0_76.out.up (by repeat (first | exact Chg.refl _ _ | apply Chg.drew | apply Chg.drewN | refine Chg.alloc ?_ _))).keep G1.out (fun b hb h1 h2 => by simp only [New] at h1 h2; first | omega | (simp at h1 h2; omega)))
  clear X0_76
  have W0_84 := Lib.hid ((W0_77.out.up (by repeat (first | exact Chg.refl _ _ | apply Chg.drew | apply Chg.drewN | refine Chg.alloc ?_ _))).keep G1.out (fun b hb h1 h2 => by simp only [New] at h1 h2; first | omega | (simp at h1 h2; omega)))
  clear W0_77
  have q0_0_85 := Chg.cell G1.out (Chg.cell (S := Nowhere) (by repeat (first | exact Chg.refl _ _ | apply Chg.drew | apply Chg.drewN | refine Chg.alloc ?_ _)) q0_0_79 id) (fun h2 => by simp only [New] at h2; first | omega | (simp at h2; omega))
  clear q0_0_79
  have q0_1_86 := Chg.cell G1.out (Chg.cell (S := Nowhere) (by repeat (first | exact Chg.refl _ _ | apply Chg.drew | apply Chg.drewN | refine Chg.alloc ?_ _)) q0_1_80 id) (fun h2 => by simp only [New] at h2; first | omega | (simp at h2; omega))
  clear q0_1_80
  clear G1
  have M0_87 := Lib.hid (K1.out)
  clear K1
  have hneg0 : decide ((1 : Int) + cntInts (carsO a0) < 0) = false := decide_eq_false (by omega)
  go_wp2_with fail
  refine (heldInts _ _ _ (carsO a0) (1) hr1_0 hr2_0 (M0_87.out.up (by repeat (first | exact Chg.refl _ _ | apply Chg.drew | apply Chg.drewN | refine Chg.alloc ?_ _)))).mono ?_
  rintro e w88 ⟨rfl, g1⟩
  have G1 := Lib.hid g1
  obtain ⟨hy88, hz88⟩ := up_pre (show Up w81 _ from (by repeat (first | exact Chg.refl _ _ | apply Chg.drew | apply Chg.drewN | refine Chg.alloc ?_ _))) G1.out
  clear g1
  have U_89 := Lib.hid (Chg.trans U_82.out (Chg.trans (by repeat (first | exact Chg.refl _ _ | apply Chg.drew | apply Chg.drewN | refine Chg.alloc ?_ _)) G1.out))
  clear U_82
  have X0_90 := Lib.hid (X0_83.out.up (Chg.trans (by repeat (first | exact Chg.refl _ _ | apply Chg.drew | apply Chg.drewN | refine Chg.alloc ?_ _)) G1.out))
  clear X0_83
  have W0_91 := Lib.hid (W0_84.out.up (Chg.trans (by repeat (first | exact Chg.refl _ _ | apply Chg.drew | apply Chg.drewN | refine Chg.alloc ?_ _)) G1.out))
  clear W0_84
  have q0_0_92 := Chg.cell (Chg.trans (by repeat (first | exact Chg.refl _ _ | apply Chg.drew | apply Chg.drewN | refine Chg.alloc ?_ _)) G1.out) q0_0_85 id
  clear q0_0_85
  have q0_1_93 := Chg.cell (Chg.trans (by repeat (first | exact Chg.refl _ _ | apply Chg.drew | apply Chg.drewN | refine Chg.alloc ?_ _)) G1.out) q0_1_86 id
  clear q0_1_86
  have M0_94 := Lib.hid (M0_87.out.up (Chg.trans (by repeat (first | exact Chg.refl _ _ | apply Chg.drew | apply Chg.drewN | refine Chg.alloc ?_ _)) G1.out))
  clear M0_87
  clear G1
  go_wp2_with fail
  refine (toChartX_any _ _ _ a0 (by omega) (X0_90.out.up (by repeat (first | exact Chg.refl _ _ | apply Chg.drew | apply Chg.drewN | refine Chg.alloc ?_ _)))).mono ?_
  rintro e w95 ⟨v95, rfl, k1, g1⟩
  have K1 := Lib.hid k1
  clear k1
  have G1 := Lib.hid g1
  obtain ⟨hy95, hz95⟩ := up_pre (show Up w88 _ from (by repeat (first | exact Chg.refl _ _ | apply Chg.drew | apply Chg.drewN | refine Chg.alloc ?_ _))) G1.out
  clear g1
  have U_96 := Lib.hid (Chg.trans U_89.out (Chg.trans (by repeat (first | exact Chg.refl _ _ | apply Chg.drew | apply Chg.drewN | refine Chg.alloc ?_ _)) G1.out))
  clear U_89
  have X0_97 := Lib.hid (X0_90.out.up (Chg.trans (by repeat (first | exact Chg.refl _ _ | apply Chg.drew | apply Chg.drewN | refine Chg.alloc ?_ _)) G1.out))
  clear X0_90
  have W0_98 := Lib.hid (W0_91.out.up (Chg.trans (by repeat (first | exact Chg.refl _ _ | apply Chg.drew | apply Chg.drewN | refine Chg.alloc ?_ _)) G1.out))
  clear W0_91
  have q0_0_99 := Chg.cell (Chg.trans (by repeat (first | exact Chg.refl _ _ | apply Chg.drew | apply Chg.drewN | refine Chg.alloc ?_ _)) G1.out) q0_0_92 id
  clear q0_0_92
  have q0_1_100 := Chg.cell (Chg.trans (by repeat (first | exact Chg.refl _ _ | apply Chg.drew | apply Chg.drewN | refine Chg.alloc ?_ _)) G1.out) q0_1_93 id
  clear q0_1_93
  have M0_101 := Lib.hid (M0_94.out.up (Chg.trans (by repeat (first | exact Chg.refl _ _ | apply Chg.drew | apply Chg.drewN | refine Chg.alloc ?_ _)) G1.out))
  clear M0_94
  clear G1
  have E0_102 := Lib.hid (K1.out)
  clear K1
  obtain ⟨As95, cs95, rfl, ys95, hls95, hcs95⟩ := openChartX E0_102.out
  clear ys95
  go_wp2_with fail
  refine (CarriersOf_X _ _ _ a0 (E0_102.out.up (by repeat (first | exact Chg.refl _ _ | apply Chg.drew | apply Chg.drewN | refine Chg.alloc ?_ _)))).mono ?_
  rintro e w103 ⟨v103, rfl, k1, g1⟩
  obtain ⟨A103, c103, rfl, hl103, hc103, -⟩ := k1.shape
  have K1 := Lib.hid k1
  clear k1
  have G1 := Lib.hid g1
  obtain ⟨hy103, hz103⟩ := up_pre (show Up w95 _ from (by repeat (first | exact Chg.refl _ _ | apply Chg.drew | apply Chg.drewN | refine Chg.alloc ?_ _))) G1.out
  clear g1
  have U_104 := Lib.hid (Chg.trans U_96.out (Chg.trans (by repeat (first | exact Chg.refl _ _ | apply Chg.drew | apply Chg.drewN | refine Chg.alloc ?_ _)) G1.out))
  clear U_96
  have X0_105 := Lib.hid (X0_97.out.up (Chg.trans (by repeat (first | exact Chg.refl _ _ | apply Chg.drew | apply Chg.drewN | refine Chg.alloc ?_ _)) G1.out))
  clear X0_97
  have W0_106 := Lib.hid (W0_98.out.up (Chg.trans (by repeat (first | exact Chg.refl _ _ | apply Chg.drew | apply Chg.drewN | refine Chg.alloc ?_ _)) G1.out))
  clear W0_98
  have q0_0_107 := Chg.cell (Chg.trans (by repeat (first | exact Chg.refl _ _ | apply Chg.drew | apply Chg.drewN | refine Chg.alloc ?_ _)) G1.out) q0_0_99 id
  clear q0_0_99
  have q0_1_108 := Chg.cell (Chg.trans (by repeat (first | exact Chg.refl _ _ | apply Chg.drew | apply Chg.drewN | refine Chg.alloc ?_ _)) G1.out) q0_1_100 id
  clear q0_1_100
  have M0_109 := Lib.hid (M0_101.out.up (Chg.trans (by repeat (first | exact Chg.refl _ _ | apply Chg.drew | apply Chg.drewN | refine Chg.alloc ?_ _)) G1.out))
  clear M0_101
  have E0_110 := Lib.hid (E0_102.out.up (Chg.trans (by repeat (first | exact Chg.refl _ _ | apply Chg.drew | apply Chg.drewN | refine Chg.alloc ?_ _)) G1.out))
  clear E0_102
  clear G1
  have H0_111 := Lib.hid (K1.out)
  clear K1
  go_wp2_with fail
  refine (eqInts _ _ _ _ _ (carsO a0) (H0_111.out.up (by repeat (first | exact Chg.refl _ _ | apply Chg.drew | apply Chg.drewN | refine Chg.alloc ?_ _))) (W0_106.out.up (by repeat (first | exact Chg.refl _ _ | apply Chg.drew | apply Chg.drewN | refine Chg.alloc ?_ _)))).mono ?_
  rintro e w112 ⟨rfl, g1⟩
  have G1 := Lib.hid g1
  obtain ⟨hy112, hz112⟩ := up_pre (show Up w103 _ from (by repeat (first | exact Chg.refl _ _ | apply Chg.drew | apply Chg.drewN | refine Chg.alloc ?_ _))) G1.out
  clear g1
  have U_113 := Lib.hid (Chg.trans U_104.out (Chg.trans (by repeat (first | exact Chg.refl _ _ | apply Chg.drew | apply Chg.drewN | refine Chg.alloc ?_ _)) G1.out))
  clear U_104
  have X0_114 := Lib.hid (X0_105.out.up (Chg.trans (by repeat (first | exact Chg.refl _ _ | apply Chg.drew | apply Chg.drewN | refine Chg.alloc ?_ _)) G1.out))
  clear X0_105
  have W0_115 := Lib.hid (W0_106.out.up (Chg.trans (by repeat (first | exact Chg.refl _ _ | apply Chg.drew | apply Chg.drewN | refine Chg.alloc ?_ _)) G1.out))
  clear W0_106
  have q0_0_116 := Chg.cell (Chg.trans (by repeat (first | exact Chg.refl _ _ | apply Chg.drew | apply Chg.drewN | refine Chg.alloc ?_ _)) G1.out) q0_0_107 id
  clear q0_0_107
  have q0_1_117 := Chg.cell (Chg.trans (by repeat (first | exact Chg.refl _ _ | apply Chg.drew | apply Chg.drewN | refine Chg.alloc ?_ _)) G1.out) q0_1_108 id
  clear q0_1_108
  have M0_118 := Lib.hid (M0_109.out.up (Chg.trans (by repeat (first | exact Chg.refl _ _ | apply Chg.drew | apply Chg.drewN | refine Chg.alloc ?_ _)) G1.out))
  clear M0_109
  have E0_119 := Lib.hid (E0_110.out.up (Chg.trans (by repeat (first | exact Chg.refl _ _ | apply Chg.drew | apply Chg.drewN | refine Chg.alloc ?_ _)) G1.out))
  clear E0_110
  have H0_120 := Lib.hid (H0_111.out.up (Chg.trans (by repeat (first | exact Chg.refl _ _ | apply Chg.drew | apply Chg.drewN | refine Chg.alloc ?_ _)) G1.out))
  clear H0_111
  clear G1
  go_wp2_with fail
  refine (heldInts _ _ _ (carsO a0) (1) hr1_0 hr2_0 (M0_118.out.up (by repeat (first | exact Chg.refl _ _ | apply Chg.drew | apply Chg.drewN | refine Chg.alloc ?_ _)))).mono ?_
  rintro e w121 ⟨rfl, g1⟩
  have G1 := Lib.hid g1
  obtain ⟨hy121, hz121⟩ := up_pre (show Up w112 _ from (by repeat (first | exact Chg.refl _ _ | apply Chg.drew | apply Chg.drewN | refine Chg.alloc ?_ _))) G1.out
  clear g1
  have U_122 := Lib.hid (Chg.trans U_113.out (Chg.trans (by repeat (first | exact Chg.refl _ _ | apply Chg.drew | apply Chg.drewN | refine Chg.alloc ?_ _)) G1.out))
  clear U_113
  have X0_123 := Lib.hid (X0_114.out.up (Chg.trans (by repeat (first | exact Chg.refl _ _ | apply Chg.drew | apply Chg.drewN | refine Chg.alloc ?_ _)) G1.out))
  clear X0_114
  have W0_124 := Lib.hid (W0_115.out.up (Chg.trans (by repeat (first | exact Chg.refl _ _ | apply Chg.drew | apply Chg.drewN | refine Chg.alloc ?_ _)) G1.out))
  clear W0_115
  have q0_0_125 := Chg.cell (Chg.trans (by repeat (first | exact Chg.refl _ _ | apply Chg.drew | apply Chg.drewN | refine Chg.alloc ?_ _)) G1.out) q0_0_116 id
  clear q0_0_116
  have q0_1_126 := Chg.cell (Chg.trans (by repeat (first | exact Chg.refl _ _ | apply Chg.drew | apply Chg.drewN | refine Chg.alloc ?_ _)) G1.out) q0_1_117 id
  clear q0_1_117
  have M0_127 := Lib.hid (M0_118.out.up (Chg.trans (by repeat (first | exact Chg.refl _ _ | apply Chg.drew | apply Chg.drewN | refine Chg.alloc ?_ _)) G1.out))
  clear M0_118
  have E0_128 := Lib.hid (E0_119.out.up (Chg.trans (by repeat (first | exact Chg.refl _ _ | apply Chg.drew | apply Chg.drewN | refine Chg.alloc ?_ _)) G1.out))
  clear E0_119
  have H0_129 := Lib.hid (H0_120.out.up (Chg.trans (by repeat (first | exact Chg.refl _ _ | apply Chg.drew | apply Chg.drewN | refine Chg.alloc ?_ _)) G1.out))
  clear H0_120
  clear G1
  go_wp2
  go_ret
  exact ⟨rfl, Up.below (Chg.trans U_122.out (by repeat (first | exact Chg.refl _ _ | apply Chg.drew | apply Chg.drewN | refine Chg.alloc ?_ _)))⟩
set_option maxRecDepth 100000 in
theorem walk (w : World) (v0 : Value) (a0 : ChartM) (ha0 : ChartV w (fun b => b < w.heap.size) v0 a0) :
    Calls Try.prog 5 #[v0] w fun e w' => e = .returned (.bool true) ∧ Below w.heap.size w w' := by
  by_cases hbt : (cntRs a0.rs : Int) ≤ 1048576
  rotate_left
  · skip
    obtain ⟨A0, c0, rfl, y0, hl0, hc0⟩ := openChart ha0
    have X0 := Lib.hid ha0
    clear ha0 y0
    have U0 := Lib.hid (Chg.refl Nowhere w)
    have hd : decide ((-1 : Int) < 0) = true := rfl
    have U_1 := Lib.hid (Chg.trans U0.out ((Chg.refl Nowhere w).alloc (.cells #[.int .i64 a0.n, .slice A0 a0.rs.length c0] 51)))
    clear U0
    have X_2 := Lib.hid (X0.out.up ((Chg.refl Nowhere w).alloc (.cells #[.int .i64 a0.n, .slice A0 a0.rs.length c0] 51)))
    clear X0
    have q0_3 := (show (w.alloc (.cells #[.int .i64 a0.n, .slice A0 a0.rs.length c0] 51)).cell? ⟨w.heap.size, 0, none⟩ = some (.int .i64 a0.n) from cell_new _ _ _ _)
    have q1_4 := (show (w.alloc (.cells #[.int .i64 a0.n, .slice A0 a0.rs.length c0] 51)).cell? ⟨w.heap.size, 1, none⟩ = some (.slice A0 a0.rs.length c0) from cell_new _ _ _ _)
    have hbx5 : w.heap.size < (w.alloc (.cells #[.int .i64 a0.n, .slice A0 a0.rs.length c0] 51)).heap.size := by simp
    go_enter Try.func5, Try.ntmps5
    go_wp2_with fail
    refine (szChart_no _ _ _ a0 1048576 (by omega) (by omega) (X_2.out.up (by repeat (first | exact Chg.refl _ _ | apply Chg.drew | apply Chg.drewN | refine Chg.alloc ?_ _)))).mono ?_
    rintro e w6 ⟨rfl, g1⟩
    have G1 := Lib.hid g1
    have hz6 := G1.out.size
    clear g1
    have U_7 := Lib.hid (Chg.trans U_1.out (Chg.trans (by repeat (first | exact Chg.refl _ _ | apply Chg.drew | apply Chg.drewN | refine Chg.alloc ?_ _)) G1.out))
    clear U_1
    have X_8 := Lib.hid (X_2.out.up (Chg.trans (by repeat (first | exact Chg.refl _ _ | apply Chg.drew | apply Chg.drewN | refine Chg.alloc ?_ _)) G1.out))
    clear X_2
    have q0_9 := Chg.cell (Chg.trans (by repeat (first | exact Chg.refl _ _ | apply Chg.drew | apply Chg.drewN | refine Chg.alloc ?_ _)) G1.out) q0_3 id
    clear q0_3
    have q1_10 := Chg.cell (Chg.trans (by repeat (first | exact Chg.refl _ _ | apply Chg.drew | apply Chg.drewN | refine Chg.alloc ?_ _)) G1.out) q1_4 id
    clear q1_4
    clear G1
    go_wp2
    go_ret
    exact ⟨rfl, Up.below (Chg.trans U_7.out (by repeat (first | exact Chg.refl _ _ | apply Chg.drew | apply Chg.drewN | refine Chg.alloc ?_ _)))⟩
  exact walk0 w v0 a0 ha0 hbt
end fnExactCarriersOf
end Go.Proofs.Ytnjfhpgmogopnaa
