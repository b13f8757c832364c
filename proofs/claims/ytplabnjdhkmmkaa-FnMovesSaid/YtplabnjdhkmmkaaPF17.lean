/- The reference's rule at an operation in one contract; valid operations for a width. No condition but room. FnMoves: the plain law. No condition. The knitting machine as a struct's value; it is put into memory; its beds grow. No condition. The program makes an empty machine. No condition. The reference makes an empty machine. No condition. A copy of the reference's machine: what is read of the old one, what the new one begins with. No condition. The laws' d8Same, d8Full. No condition. The program's PlaceColumns. No condition. The program's MoveColumns. No condition. The program's MoveLength. No condition. The program's ApplyMove. No condition. -/
import Derived.Test.YtplabnjdhkmmkaaPF16
import Derived.Test.YtplabnjdhkmmkaaValid3
import Derived.Test.YtplabnjdhkmmkaaPF11
import Derived.Test.YtplabnjdhkmmkaaPF14
import Derived.Test.YtplabnjdhkmmkaaPF15
import Derived.Test.YtplabnjdhkmmkaaPF2
import Derived.Test.YtplabnjdhkmmkaaPF6
import Derived.Test.YtplabnjdhkmmkaaPF5
import Derived.Test.YtplabnjdhkmmkaaPF4
import Derived.Test.YtplabnjdhkmmkaaPF8
import Derived.Test.YtplabnjdhkmmkaaPF10
section
set_option linter.unusedSimpArgs false
set_option linter.unusedVariables false
set_option maxRecDepth 100000
set_option maxHeartbeats 8000000
namespace Go.Proofs.Ytplabnjdhkmmkaa
open Go.ChangeShapes Go.WideShapes Go.ChangeAt Go.RowKit
attribute [local go_sem ↓] Go.wp_at_zero Go.wp_at_succ
/-- operations that are valid for a width -/
def okOpB (w : Int) (x : OpM) : Bool := validB x && (decide (x.fa < w) && decide (x.ta < w))
def okOpsB (w : Int) (ops : List OpM) : Bool := ops.all (okOpB w) && (inB w 1 24 && decide (ops.length ≤ 1500))
theorem OpAt.opC {w : World} {b o : Nat} {x : OpM} (h : OpAt w b o x) : OpC w b o x := by
  obtain ⟨_, h0, h1, h2, h3, h4, h5, h6, h7⟩ := h
  exact ⟨h0, h1, h2, h3, h4, h5, h6, h7⟩
theorem fits_no1 (w : World) (b i : Nat) (x : OpM) (n : Int) (h : OpC w b i x) (h1 : ¬ x.fa < n) : Calls Try.prog 63 #[.pointer (some ⟨b, i, none⟩), .int .i64 n] w fun e w' => e = .returned (.bool false) ∧ w = w' := by
  obtain ⟨k, d, fb, fa, tb, ta, car, rk⟩ := x
  have o3 : w.cell? ⟨b, i + 2 + 1, none⟩ = _ := h.c3
  have o5 : w.cell? ⟨b, i + 4 + 1, none⟩ = _ := h.c5
  dsimp only at o3 o5 h1
  have t1 : decide (fa < n) = false := decide_eq_false h1
  clear h
  go_enter Try.func63, Try.ntmps63
  go_wp2
  go_ret
  exact ⟨rfl, rfl⟩
theorem fits_no2 (w : World) (b i : Nat) (x : OpM) (n : Int) (h : OpC w b i x) (h1 : x.fa < n) (h2 : ¬ x.ta < n) : Calls Try.prog 63 #[.pointer (some ⟨b, i, none⟩), .int .i64 n] w fun e w' => e = .returned (.bool false) ∧ w = w' := by
  obtain ⟨k, d, fb, fa, tb, ta, car, rk⟩ := x
  have o3 : w.cell? ⟨b, i + 2 + 1, none⟩ = _ := h.c3
  have o5 : w.cell? ⟨b, i + 4 + 1, none⟩ = _ := h.c5
  dsimp only at o3 o5 h1 h2
  have t1 : decide (fa < n) = true := decide_eq_true h1
  have t2 : decide (ta < n) = false := decide_eq_false h2
  clear h
  go_enter Try.func63, Try.ntmps63
  go_wp2
  go_ret
  exact ⟨rfl, rfl⟩
theorem fits_yes (w : World) (b i : Nat) (x : OpM) (n : Int) (h : OpC w b i x) (h1 : x.fa < n) (h2 : x.ta < n) : Calls Try.prog 63 #[.pointer (some ⟨b, i, none⟩), .int .i64 n] w fun e w' => e = .returned (.bool true) ∧ w = w' := by
  obtain ⟨k, d, fb, fa, tb, ta, car, rk⟩ := x
  have o3 : w.cell? ⟨b, i + 2 + 1, none⟩ = _ := h.c3
  have o5 : w.cell? ⟨b, i + 4 + 1, none⟩ = _ := h.c5
  dsimp only at o3 o5 h1 h2
  have t1 : decide (fa < n) = true := decide_eq_true h1
  have t2 : decide (ta < n) = true := decide_eq_true h2
  clear h
  go_enter Try.func63, Try.ntmps63
  go_wp2
  go_ret
  exact ⟨rfl, rfl⟩
theorem l07Fits_any (w : World) (b i : Nat) (x : OpM) (n : Int) (h : OpC w b i x) : Calls Try.prog 63 #[.pointer (some ⟨b, i, none⟩), .int .i64 n] w fun e w' => e = .returned (.bool (decide (x.fa < n) && decide (x.ta < n))) ∧ w = w' := by
  by_cases h1 : x.fa < n
  · by_cases h2 : x.ta < n
    · rw [decide_eq_true h1, decide_eq_true h2]; exact fits_yes w b i x n h h1 h2
    · rw [decide_eq_true h1, decide_eq_false h2]; exact fits_no2 w b i x n h h1 h2
  · rw [decide_eq_false h1]; exact fits_no1 w b i x n h h1
theorem ops_no {n : Int} {xs : List OpM} {j : Nat} (h : j < xs.length) (hn : okOpB n xs[j] = false) : okOpsB n xs = false := by
  unfold okOpsB
  have : xs.all (okOpB n) = false := by
    rw [List.all_eq_false]
    exact ⟨xs[j], List.getElem_mem h, by rw [hn]; simp⟩
  rw [this]; rfl
theorem ops_take {n : Int} {xs : List OpM} {j : Nat} (h : j < xs.length) (ha : (xs.take j).all (okOpB n) = true) (hn : okOpB n xs[j] = true) : (xs.take (j + 1)).all (okOpB n) = true := by
  rw [List.take_succ_eq_append_getElem h, List.all_append, ha]
  simp [hn]
theorem l07Op_v (w : World) (b o : Nat) (x : OpM) (h : OpAt w b o x) {v : Bool} (hv : validB x = v) :
    Calls Try.prog 62 #[.pointer (some ⟨b, o, none⟩)] w fun e w' => e = .returned (.bool v) ∧ Up w w' := hv ▸ l07Op_any w b o x h
theorem l07Fits_v (w : World) (b i : Nat) (x : OpM) (n : Int) (h : OpC w b i x) {v : Bool} (hv : (decide (x.fa < n) && decide (x.ta < n)) = v) : Calls Try.prog 63 #[.pointer (some ⟨b, i, none⟩), .int .i64 n] w fun e w' => e = .returned (.bool v) ∧ w = w' := hv ▸ l07Fits_any w b i x n h
theorem l07Ops_any (w : World) (S : Nat → Prop) (v : Value) (xs : List OpM) (h : Ops w S v xs) (n : Int) :
    Calls Try.prog 33 #[.int .i64 n, v] w fun e w' => e = .returned (.bool (okOpsB n xs)) ∧ Up w w' := by
  obtain ⟨A, c, rfl, hlc, hcm, -⟩ := h.1.shape
  have H := Lib.hid h
  clear h
  go_enter Try.func33, Try.ntmps33
  go_wp2
  go_loopw [5] (fun i wr => ∃ j : Nat, j ≤ xs.length ∧ i = .int .i64 j ∧ Hid (Up w wr) ∧ Hid ((xs.take j).all (okOpB n) = true)) (fun i _ => xs.length - (intOf i).toNat)
  case atStart => exact ⟨0, by omega, rfl, Chg.refl _ _, rfl⟩
  case round =>
    obtain ⟨j, hj, rfl, hg, hva⟩ := hrel
    by_cases hlt : j < xs.length
    · obtain ⟨b, o, c', he, hS, hat⟩ := (Ops.up H.out hg.out).opAt hlt
      obtain ⟨rfl, rfl⟩ : A = some ⟨b, o, none⟩ ∧ c = c' := by simpa using he
      have HA := Lib.hid hat
      clear hat he
      cases hv1 : validB xs[j] with
      | false =>
        have HO := Lib.hid (ops_no hlt (by unfold okOpB; rw [hv1]; rfl) : okOpsB n xs = false)
        go_wp2_with fail
        refine (l07Op_v _ _ _ xs[j] HA.out hv1).mono ?_
        rintro e w2 ⟨rfl, g2⟩
        have G2 := Lib.hid (Chg.trans hg.out g2 : Up w w2)
        have HF := Lib.hid (HA.out.up g2).opC
        clear g2
        go_wp2
        go_ret
        exact ⟨ret_bool HO.out.symm, G2.out⟩
      | true =>
        cases hv2 : (decide (xs[j].fa < n) && decide (xs[j].ta < n)) with
        | false =>
          have HO := Lib.hid (ops_no hlt (by unfold okOpB; rw [hv1, hv2]; rfl) : okOpsB n xs = false)
          go_wp2_with fail
          refine (l07Op_v _ _ _ xs[j] HA.out hv1).mono ?_
          rintro e w2 ⟨rfl, g2⟩
          have G2 := Lib.hid (Chg.trans hg.out g2 : Up w w2)
          have HF := Lib.hid (HA.out.up g2).opC
          clear g2
          go_wp2_with fail
          refine (l07Fits_v _ _ _ xs[j] n HF.out hv2).mono ?_
          rintro e w' ⟨rfl, rfl⟩
          go_wp2
          go_ret
          exact ⟨ret_bool HO.out.symm, G2.out⟩
        | true =>
          have HT := Lib.hid (ops_take hlt hva.out (by unfold okOpB; rw [hv1, hv2]; rfl) : (xs.take (j + 1)).all (okOpB n) = true)
          go_wp2_with fail
          refine (l07Op_v _ _ _ xs[j] HA.out hv1).mono ?_
          rintro e w2 ⟨rfl, g2⟩
          have G2 := Lib.hid (Chg.trans hg.out g2 : Up w w2)
          have HF := Lib.hid (HA.out.up g2).opC
          clear g2
          go_wp2_with fail
          refine (l07Fits_v _ _ _ xs[j] n HF.out hv2).mono ?_
          rintro e w' ⟨rfl, rfl⟩
          go_wp2
          go_roundw
          case rel => exact ⟨j + 1, by omega, by go_num, G2.out, HT.out⟩
          case measure => first | (simp [intOf]; done) | (simp [intOf]; omega)
    · obtain rfl : j = xs.length := by omega
      have hall : xs.all (okOpB n) = true := by have := hva.out; rwa [List.take_length] at this
      have HO := Lib.hid (show okOpsB n xs = (inB n 1 24 && decide (xs.length ≤ 1500)) by unfold okOpsB; rw [hall]; rfl)
      clear hall hva
      go_wp2_with fail
      refine (l00In_any _ _ _ _).mono ?_
      rintro e w' ⟨rfl, rfl⟩
      cases hb : inB n 1 24 with
      | false =>
        rw [hb] at HO
        go_wp2
        go_ret
        exact ⟨ret_bool HO.out.symm, hg.out⟩
      | true =>
        rw [hb] at HO
        go_wp2
        go_ret
        exact ⟨ret_bool (by rw [HO.out, Bool.true_and]; exact decide_eq_decide.2 (by omega)), hg.out⟩
end Go.Proofs.Ytplabnjdhkmmkaa
end
section
set_option linter.unusedSimpArgs false
set_option linter.unusedVariables false
namespace Go.Proofs.Ytplabnjdhkmmkaa
open Go.ChangeShapes Go.WideShapes Go.ChangeAt Go.RowKit
/-- where columns are after some of the moves -/
def nowTo (xs : List Int) (ms : List MoveM) (i : Nat) : List Int := (ms.take i).foldl (fun l m => appOut l m.fr m.to) xs
theorem nowTo_succ {xs : List Int} {ms : List MoveM} {i : Nat} (h : i < ms.length) : nowTo xs ms (i + 1) = appOut (nowTo xs ms i) ms[i].fr ms[i].to := by
  unfold nowTo
  rw [List.take_succ_eq_append_getElem h, List.foldl_append]
  rfl
theorem Runs.at_ {a b : List Int} {ms : List MoveM} (h : Runs a ms b) : nowTo a ms ms.length = b ∧ ∀ i (hi : i < ms.length), appCode (nowTo a ms i) ms[i].fr ms[i].to = 0 := by
  induction h with
  | nil l => exact ⟨rfl, fun i hi => absurd hi (by simp)⟩
  | @cons l e m ms h k ih =>
    have hc : ∀ i, nowTo l (m :: ms) (i + 1) = nowTo (appOut l m.fr m.to) ms i := fun i => rfl
    refine ⟨(hc _).trans ih.1, fun i hi => ?_⟩
    match i, hi with
    | 0, _ => exact h
    | i + 1, hi => 
      rw [hc i]
      exact ih.2 i (by simpa using hi)
theorem Runs.moves {a b : List Int} {ms : List MoveM} (h : Runs a ms b) : ∀ m ∈ ms, isMoveP m.fr m.to := by
  induction h with
  | nil l => intro m hm; simp at hm
  | @cons l e m ms h k ih =>
    intro x hx
    rcases List.mem_cons.1 hx with rfl | hx
    · unfold appCode at h
      by_cases h1 : placesB false l = true
      · rw [if_pos h1] at h
        by_cases h2 : isMoveP x.fr x.to
        · exact h2
        · rw [if_neg h2] at h; omega
      · rw [if_neg h1] at h; omega
    · exact ih x hx
theorem plan_ok {xs ys : List Int} (h : planCode xs ys = 0) : placesB false xs = true ∧ placesB true ys = true ∧ xs.length = ys.length := by
  unfold planCode at h
  split at h
  · assumption
  · omega
theorem mvOps_len {xs ys : List Int} (h : planCode xs ys = 0) : (mvOps xs ys).length ≤ 1000 := by
  have h1 := plan_len (planCode_zero' h)
  have h2 := (places_rise (plan_ok h).1).1
  unfold mvOps
  rw [List.length_append, colsM_len]
  simp [knitM]
  omega
theorem mvOps_ok {xs ys : List Int} (h : planCode xs ys = 0) : okOpsB 24 (mvOps xs ys) = true := by
  have hl := mvOps_len h
  have hb := (places_bd (plan_ok h).1).2
  have hm := (plan_runs h).moves
  unfold okOpsB
  rw [Bool.and_eq_true, Bool.and_eq_true, List.all_eq_true]
  refine ⟨fun x hx => ?_, by decide, decide_eq_true (by omega)⟩
  suffices hk : okOp 24 x by
    obtain ⟨k1, k2, k3⟩ := hk
    unfold okOpB
    rw [Bool.and_eq_true, Bool.and_eq_true]
    exact ⟨k1, decide_eq_true k2, decide_eq_true k3⟩
  unfold mvOps knitM colsM at hx
  rw [List.cons_append, List.mem_cons, List.mem_append, List.mem_map, List.mem_flatMap] at hx
  rcases hx with rfl | ⟨y, hy, rfl⟩ | ⟨m, hm1, hx⟩
  · exact ⟨by decide, by decide, by decide⟩
  · have := hb y hy
    exact ⟨valid_knit this, by show y < 24; omega, by show (0 : Int) < 24; omega⟩
  · obtain ⟨h1, h2, h3, h4⟩ := hm m hm1
    simp only [rackM, List.mem_cons, List.not_mem_nil, or_false] at hx
    rcases hx with rfl | rfl | rfl | rfl
    · exact ⟨valid_xfer (.inl ⟨rfl, rfl⟩) h1 h1, by show m.fr < 24; omega, by show m.fr < 24; omega⟩
    · exact ⟨valid_rack h4, by show (0 : Int) < 24; omega, by show (0 : Int) < 24; omega⟩
    · exact ⟨valid_xfer (.inr ⟨rfl, rfl⟩) h1 h2, by show m.fr < 24; omega, by show m.to < 24; omega⟩
    · exact ⟨valid_rack (by omega), by show (0 : Int) < 24; omega, by show (0 : Int) < 24; omega⟩
/-- the needles of a bed that bear loops -/
def fullTo (l : List (List Int)) (j : Nat) : List Int := ((List.range j).filter fun i => l.getD i [] ≠ []).map fun i => ((i : Nat) : Int)
theorem fullTo_yes {l : List (List Int)} {j : Nat} (h : l.getD j [] ≠ []) : fullTo l (j + 1) = fullTo l j ++ [((j : Nat) : Int)] := by
  rw [List.getD_eq_getElem?_getD] at h
  unfold fullTo
  rw [List.range_succ, List.filter_append, List.map_append]
  simp [List.filter_cons, h]
theorem fullTo_no {l : List (List Int)} {j : Nat} (h : l.getD j [] = []) : fullTo l (j + 1) = fullTo l j := by
  rw [List.getD_eq_getElem?_getD] at h
  unfold fullTo
  rw [List.range_succ, List.filter_append, List.map_append]
  simp [List.filter_cons, h]
theorem fullTo_length (l : List (List Int)) (j : Nat) : (fullTo l j).length ≤ j := by
  unfold fullTo
  rw [List.length_map]
  exact Nat.le_trans (List.length_filter_le _ _) (by simp)
theorem fullTo_sorted (l : List (List Int)) (j : Nat) : (fullTo l j).Pairwise (· < ·) := by
  unfold fullTo
  rw [List.pairwise_map]
  refine List.Pairwise.imp ?_ (List.Pairwise.filter _ List.pairwise_lt_range)
  intro a b h
  omega
theorem once_bd {ys : List Int} (h : placesB true ys = true) : ∀ x ∈ onceL ys ys ys.length, 0 ≤ x ∧ x ≤ 23 := by
  intro x hx
  obtain ⟨i, hi, rfl⟩ := ((once_sorted (fun i j hij hj => rise_le h hij hj) _ (Nat.le_refl _)).2 x).1 hx
  exact (places_rise h).2.1 i hi
theorem full_once {m : MachM} {ys : List Int} {n : Nat} (h : ColS m (onceL ys ys ys.length) n) (hp : placesB true ys = true) : fullTo m.fr m.fr.length = onceL ys ys ys.length := by
  have hl : m.fr.length = 24 := by have := h.inv.fl; rw [h.wd] at this; omega
  rw [hl]
  refine sorted_ext (fullTo_sorted _ _) (once_sorted (fun i j hij hj => rise_le hp hij hj) _ (Nat.le_refl _)).1 fun x => ?_
  unfold fullTo
  rw [List.mem_map]
  constructor
  · rintro ⟨i, hi, rfl⟩
    obtain ⟨h1, h2⟩ := List.mem_filter.1 hi
    exact (h.fr i (List.mem_range.1 h1)).1 (by simpa using h2)
  · intro hx
    have hb := once_bd hp x hx
    refine ⟨x.toNat, List.mem_filter.2 ⟨List.mem_range.2 (by omega), ?_⟩, by omega⟩
    have := (h.fr x.toNat (by omega)).2 (by rw [show ((x.toNat : Nat) : Int) = x by omega]; exact hx)
    simpa using this
theorem ColS.fl {m : MachM} {now : List Int} {n : Nat} (h : ColS m now n) : m.fr.length = 24 ∧ m.bk.length = 24 := by
  have h1 := h.inv.fl
  have h2 := h.inv.bl
  rw [h.wd] at h1 h2
  omega
end Go.Proofs.Ytplabnjdhkmmkaa
end
section
set_option linter.unusedSimpArgs false
set_option linter.unusedVariables false
namespace Go.Proofs.Ytplabnjdhkmmkaa
open Go.ChangeShapes Go.WideShapes Go.ChangeAt Go.RowKit
/-- the machine's parts; its struct is a value -/
structure MachV (w : World) (S : Nat → Prop) (K : Nat) (m : MachM) (F B C L D : Value) (fs bs : List Value) : Prop where
  f : w.ownsRow 0 23 1 F fs.length fs
  b : w.ownsRow 0 23 1 B bs.length bs
  fl : fs.length = m.fr.length
  bl : bs.length = m.bk.length
  fi : ∀ i (h : i < fs.length), OwnI w 0 fs[i] (m.fr.getD i [])
  bi : ∀ i (h : i < bs.length), OwnI w 0 bs[i] (m.bk.getD i [])
  c : w.ownsRow 0 139 2 C m.cs.length (carCells m.cs)
  l : ∃ cs, w.ownsRow 0 118 6 L m.nl cs
  d : ∃ ds, OwnI w 0 D ds ∧ ds.length ≤ K
  own : ∀ v ∈ F :: B :: C :: L :: D :: (fs ++ bs), ∀ g, v.ownBlock = some g → S g
  ap : (F :: B :: C :: L :: D :: (fs ++ bs)).Pairwise Off2
  ps : InfosR w S L m.nl (F :: B :: C :: L :: D :: (fs ++ bs))
def machVal (m : MachM) (F B C L D : Value) : Value := .agg #[.int .i64 m.wd, .int .i64 m.rack, F, B, C, L, D]
section
variable {w w' w1 : World} {S T : Nat → Prop} {K p : Nat} {m : MachM} {F B C L D : Value} {fs bs : List Value}
theorem MachX.val (h : MachX w S K p m F B C L D fs bs) : MachV w S K m F B C L D fs bs :=
  ⟨h.f, h.b, h.fl, h.bl, h.fi, h.bi, h.c, h.l, h.d, h.own, (List.pairwise_cons.1 h.ap).2, h.ps.mono (fun _ _ h => h) (fun _ h => List.mem_cons_of_mem _ h)⟩
theorem MachV.all_lt (h : MachV w S K m F B C L D fs bs) : ∀ v ∈ F :: B :: C :: L :: D :: (fs ++ bs), ∀ g, v.ownBlock = some g → g < w.heap.size := by
  intro v hv g hg
  rcases List.mem_cons.1 hv with rfl | hv
  · exact (h.f.lt g hg).2
  rcases List.mem_cons.1 hv with rfl | hv
  · exact (h.b.lt g hg).2
  rcases List.mem_cons.1 hv with rfl | hv
  · exact (h.c.lt g hg).2
  rcases List.mem_cons.1 hv with rfl | hv
  · obtain ⟨cs, hl⟩ := h.l; exact (hl.lt g hg).2
  rcases List.mem_cons.1 hv with rfl | hv
  · obtain ⟨ds, hd, _⟩ := h.d; exact (hd.1.lt g hg).2
  rcases List.mem_append.1 hv with hv | hv
  · obtain ⟨i, hi, rfl⟩ := List.getElem_of_mem hv
    exact ((h.fi i hi).1.lt g hg).2
  · obtain ⟨i, hi, rfl⟩ := List.getElem_of_mem hv
    exact ((h.bi i hi).1.lt g hg).2
theorem MachV.keep (h : MachV w S K m F B C L D fs bs) (k : Chg T w w') (hd : ∀ b, b < w.heap.size → S b → ¬ T b) : MachV w' S K m F B C L D fs bs := by
  have hv : ∀ v ∈ F :: B :: C :: L :: D :: (fs ++ bs), ∀ g, v.ownBlock = some g → ¬ T g := fun v hv g hg => hd g (h.all_lt v hv g hg) (h.own v hv g hg)
  obtain ⟨cs, hl⟩ := h.l
  obtain ⟨ds, hds, hdk⟩ := h.d
  exact ⟨rowKept h.f k (hv F (by simp)), rowKept h.b k (hv B (by simp)), h.fl, h.bl,
    fun i hi => (h.fi i hi).kept k (hv _ (by simp)), fun i hi => (h.bi i hi).kept k (hv _ (by simp)),
    rowKept h.c k (hv C (by simp)), ⟨cs, rowKept hl k (hv L (by simp))⟩, ⟨ds, hds.kept k (hv D (by simp)), hdk⟩, h.own, h.ap, h.ps.keep k (hv L (by simp)) hd⟩
theorem MachV.up (h : MachV w S K m F B C L D fs bs) (k : Up w w') : MachV w' S K m F B C L D fs bs := h.keep k fun _ _ _ h => h
theorem MachV.mono (h : MachV w S K m F B C L D fs bs) (hs : ∀ b, b < w.heap.size → S b → T b) : MachV w T K m F B C L D fs bs :=
  ⟨h.f, h.b, h.fl, h.bl, h.fi, h.bi, h.c, h.l, h.d, fun v hv g hg => hs g (h.all_lt v hv g hg) (h.own v hv g hg), h.ap, h.ps.mono hs (fun _ h => h)⟩
/-- the struct is put into a box of its own -/
theorem MachV.box (h : MachV w S K m F B C L D fs bs) (hS : NewIn S w) (ty : TypeId) : MachX (w.alloc (.cells #[.int .i64 m.wd, .int .i64 m.rack, F, B, C, L, D] ty)) S K w.heap.size m F B C L D fs bs := by
  have k := (Chg.refl Nowhere w).alloc (.cells #[.int .i64 m.wd, .int .i64 m.rack, F, B, C, L, D] ty)
  have h1 := h.up k
  refine ⟨hS _ (Nat.le_refl _), ⟨cell_new _ _ _ _, frozen_new _ _ _ _⟩, ⟨cell_new _ _ _ _, frozen_new _ _ _ _⟩, ⟨cell_new _ _ _ _, frozen_new _ _ _ _⟩, ⟨cell_new _ _ _ _, frozen_new _ _ _ _⟩, ⟨cell_new _ _ _ _, frozen_new _ _ _ _⟩, ⟨cell_new _ _ _ _, frozen_new _ _ _ _⟩, ⟨cell_new _ _ _ _, frozen_new _ _ _ _⟩,
    h1.f, h1.b, h1.fl, h1.bl, h1.fi, h1.bi, h1.c, h1.l, h1.d, h1.own, List.pairwise_cons.2 ⟨fun v hv g hg hvg => ?_, h1.ap⟩, ?_⟩
  · have h2 := h.all_lt v hv g hvg
    obtain rfl : w.heap.size = g := by simpa [Value.ownBlock] using hg
    omega
  · refine h.ps.turn k (fun x _ => id) (fun x hx => hx.elim) (fun _ h => h) (fun v hv x hx => ?_)
    rcases List.mem_cons.1 hv with rfl | hv
    · right
      obtain rfl : w.heap.size = x := by simpa [Value.ownBlock] using hx
      exact Nat.le_refl _
    · exact .inl ⟨v, hv, hx⟩
theorem off_fresh {u : Value} (hu : ∀ g, u.ownBlock = some g → w.heap.size ≤ g) {v : Value} (hv : ∀ g, v.ownBlock = some g → g < w.heap.size) : Off2 u v := fun g h1 h2 => by
  have := hu g h1; have := hv g h2; omega
theorem getD_snoc {α : Type} (l : List α) (x d : α) (j : Nat) : (l ++ [x]).getD j d = if j < l.length then l.getD j d else if j = l.length then x else d := by
  simp only [List.getD_eq_getElem?_getD]
  by_cases h : j < l.length
  · rw [if_pos h, List.getElem?_append_left h]
  · rw [if_neg h]
    by_cases h2 : j = l.length
    · subst h2; simp
    · rw [if_neg h2, List.getElem?_eq_none (by simp; omega)]; rfl
/-- the front bed gets one needle more -/
theorem MachX.pushF (h : MachX w S K p m F B C L D fs bs) (hS : NewIn S w) (g1 : Chg (fun b => F.ownBlock = some b) w w1) {F' u : Value} {l : List Int} (hF : w1.ownsRow 0 23 1 F' (fs.length + 1) (fs ++ [u])) (hu : OwnI w1 0 u l)
    (hFb : ∀ b, F'.ownBlock = some b → F.ownBlock = some b ∨ w.heap.size ≤ b) (hub : ∀ b, u.ownBlock = some b → w.heap.size ≤ b) (hne : Off2 F' u) :
    MachX (w1.setCell ⟨p, 2, none⟩ F') S K p { m with fr := m.fr ++ [l] } F' B C L D (fs ++ [u]) bs := by
  have P := h.parts
  have k2 : Chg (fun b => b = p) w1 (w1.setCell ⟨p, 2, none⟩ F') := Chg.setCell (Chg.refl (fun b => b = p) w1) (.inl (show p = p from rfl)) _
  have hpl : p < w.heap.size := h.c0.lt
  have p1 : ¬ F.ownBlock = some p := fun e => P.p F (by simp) p rfl e
  have ne : ∀ i, i ≠ 2 → (⟨p, 2, none⟩ : Addr) ≠ ⟨p, i, none⟩ := fun i hi e => hi (by injection e with _ e _; exact e.symm)
  have kc : ∀ {j : Nat} {x : Value}, j ≠ 2 → CellU w ⟨p, j, none⟩ x → CellU (w1.setCell ⟨p, 2, none⟩ F') ⟨p, j, none⟩ x := fun hj hc => (hc.keep g1 p1).set_other (ne _ hj)
  have np : ∀ {x : Value}, (∀ g, x.ownBlock = some g → g ≠ p) → ∀ g, x.ownBlock = some g → ¬ g = p := fun hx g hg => hx g hg
  have kr : ∀ {e : TypeId} {size n : Nat} {x : Value} {xs : List Value}, w.ownsRow 0 e size x n xs → Off2 F x → Off2 (ptr p) x → (w1.setCell ⟨p, 2, none⟩ F').ownsRow 0 e size x n xs := fun hr o1 o2 => rowKept (rowKept hr g1 (off_n1 o1)) k2 (off_ptr o2)
  have ki : ∀ {x : Value} {xs : List Int}, OwnI w 0 x xs → Off2 F x → Off2 (ptr p) x → OwnI (w1.setCell ⟨p, 2, none⟩ F') 0 x xs := fun hr o1 o2 => (hr.kept g1 (off_n1 o1)).kept k2 (off_ptr o2)
  have hnF : ∀ g, F'.ownBlock = some g → ¬ g = p := fun g hg e => by
    rcases hFb g hg with h1 | h1
    · exact p1 (e ▸ h1)
    · omega
  have hnu : ∀ g, u.ownBlock = some g → ¬ g = p := fun g hg e => by have := hub g hg; omega
  obtain ⟨cs, hl⟩ := h.l
  obtain ⟨ds, hds, hdk⟩ := h.d
  refine ⟨h.sp, kc (by omega) h.c0, kc (by omega) h.c1, (h.c2.keep g1 p1).set_same, kc (by omega) h.c3, kc (by omega) h.c4, kc (by omega) h.c5, kc (by omega) h.c6, ?_, kr h.b (P.f _ (by simp)) (P.p _ (by simp)), ?_, h.bl, ?_, ?_, kr h.c (P.f _ (by simp)) (P.p _ (by simp)),
    ⟨cs, kr hl (P.f _ (by simp)) (P.p _ (by simp))⟩, ⟨ds, ki hds (P.f _ (by simp)) (P.p _ (by simp)), hdk⟩, ?_, ?_, ?_⟩
  · rw [List.length_append, List.length_singleton]
    exact rowKept hF k2 hnF
  · simp [h.fl]
  · intro j hj
    rw [getD_snoc]
    by_cases hlt : j < fs.length
    · have hm : fs[j] ∈ fs := List.getElem_mem hlt
      rw [List.getElem_append_left hlt, if_pos (by rw [← h.fl]; exact hlt)]
      exact ki (h.fi j hlt) (P.f _ (by simp [hm])) (P.p _ (by simp [hm]))
    · have hje : j = fs.length := by simp at hj; omega
      subst hje
      rw [if_neg (by rw [← h.fl]; omega), if_pos h.fl]
      simp only [List.getElem_append_right (Nat.le_refl _), Nat.sub_self, List.getElem_cons_zero]
      exact hu.kept k2 hnu
  · intro j hj
    have hm : bs[j] ∈ bs := List.getElem_mem hj
    exact ki (h.bi j hj) (P.f _ (by simp [hm])) (P.p _ (by simp [hm]))
  · intro x hx g hg
    have hx' : x = F' ∨ x = u ∨ x ∈ F :: B :: C :: L :: D :: (fs ++ bs) := by
      simp only [List.mem_cons, List.mem_append, List.not_mem_nil, or_false] at hx ⊢
      rcases hx with hx | hx | hx | hx | hx | (hx | hx) | hx <;> simp [hx]
    rcases hx' with rfl | rfl | hx'
    · rcases hFb g hg with h1 | h1
      · exact h.own F (by simp) g h1
      · exact hS g h1
    · exact hS g (hub g hg)
    · exact h.own x hx' g hg
  · have h1 := pw_grow h.ap h.all_lt (k := 1) (by simp) (v' := F') hFb
    have h2 : (u :: (ptr p :: F' :: B :: C :: L :: D :: (fs ++ bs))).Pairwise Off2 := by
      refine List.pairwise_cons.2 ⟨fun x hx => ?_, h1⟩
      have hx' : x = F' ∨ x ∈ ptr p :: F :: B :: C :: L :: D :: (fs ++ bs) := by
        simp only [List.mem_cons, List.mem_append] at hx ⊢
        rcases hx with hx | hx | hx | hx | hx | hx | hx | hx <;> simp [hx]
      rcases hx' with rfl | hx'
      · exact hne.symm
      · exact off_fresh hub (h.all_lt x hx')
    have h3 : (ptr p :: F' :: B :: C :: L :: D :: (fs ++ [u] ++ bs)) = (ptr p :: F' :: B :: C :: L :: D :: fs) ++ u :: bs := by simp
    rw [h3]
    exact h2.perm (List.perm_middle (l₁ := ptr p :: F' :: B :: C :: L :: D :: fs) (l₂ := bs)).symm (fun {a b} h => Off2.symm h)
  · have k3 : Chg (fun b => F.ownBlock = some b ∨ b = p) w (w1.setCell ⟨p, 2, none⟩ F') := Chg.trans (g1.mono fun _ _ h => .inl h) (k2.mono fun _ _ h => .inr h)
    refine h.ps.turn k3 (fun x hx e => e.elim (off_n1 (P.f _ (by simp)) x hx) (off_ptr (P.p L (by simp)) x hx)) (fun x hx => hx.elim (fun h => .inl ⟨F, by simp, h⟩) (fun h => .inl ⟨ptr p, by simp, by rw [show x = p from h]; rfl⟩)) (fun _ h => h) (fun v hv x hx => ?_)
    have hv' : v = F' ∨ v = u ∨ v ∈ ptr p :: F :: B :: C :: L :: D :: (fs ++ bs) := by
      simp only [List.mem_cons, List.mem_append, List.not_mem_nil, or_false] at hv ⊢
      rcases hv with hv | hv | hv | hv | hv | hv | (hv | hv) | hv <;> simp [hv]
    rcases hv' with rfl | rfl | hv'
    · rcases hFb x hx with h3 | h3
      · exact .inl ⟨F, by simp, h3⟩
      · exact .inr h3
    · exact .inr (hub x hx)
    · exact .inl ⟨v, hv', hx⟩
/-- the back bed gets one needle more -/
theorem MachX.pushB (h : MachX w S K p m F B C L D fs bs) (hS : NewIn S w) (g1 : Chg (fun b => B.ownBlock = some b) w w1) {B' u : Value} {l : List Int} (hB : w1.ownsRow 0 23 1 B' (bs.length + 1) (bs ++ [u])) (hu : OwnI w1 0 u l)
    (hBb : ∀ b, B'.ownBlock = some b → B.ownBlock = some b ∨ w.heap.size ≤ b) (hub : ∀ b, u.ownBlock = some b → w.heap.size ≤ b) (hne : Off2 B' u) :
    MachX (w1.setCell ⟨p, 3, none⟩ B') S K p { m with bk := m.bk ++ [l] } F B' C L D fs (bs ++ [u]) := by
  have P := h.parts
  have k2 : Chg (fun b => b = p) w1 (w1.setCell ⟨p, 3, none⟩ B') := Chg.setCell (Chg.refl (fun b => b = p) w1) (.inl (show p = p from rfl)) _
  have hpl : p < w.heap.size := h.c0.lt
  have p1 : ¬ B.ownBlock = some p := fun e => P.p B (by simp) p rfl e
  have ne : ∀ i, i ≠ 3 → (⟨p, 3, none⟩ : Addr) ≠ ⟨p, i, none⟩ := fun i hi e => hi (by injection e with _ e _; exact e.symm)
  have kc : ∀ {j : Nat} {x : Value}, j ≠ 3 → CellU w ⟨p, j, none⟩ x → CellU (w1.setCell ⟨p, 3, none⟩ B') ⟨p, j, none⟩ x := fun hj hc => (hc.keep g1 p1).set_other (ne _ hj)
  have kr : ∀ {e : TypeId} {size n : Nat} {x : Value} {xs : List Value}, w.ownsRow 0 e size x n xs → Off2 B x → Off2 (ptr p) x → (w1.setCell ⟨p, 3, none⟩ B').ownsRow 0 e size x n xs := fun hr o1 o2 => rowKept (rowKept hr g1 (off_n1 o1)) k2 (off_ptr o2)
  have ki : ∀ {x : Value} {xs : List Int}, OwnI w 0 x xs → Off2 B x → Off2 (ptr p) x → OwnI (w1.setCell ⟨p, 3, none⟩ B') 0 x xs := fun hr o1 o2 => (hr.kept g1 (off_n1 o1)).kept k2 (off_ptr o2)
  have hnB : ∀ g, B'.ownBlock = some g → ¬ g = p := fun g hg e => by
    rcases hBb g hg with h1 | h1
    · exact p1 (e ▸ h1)
    · omega
  have hnu : ∀ g, u.ownBlock = some g → ¬ g = p := fun g hg e => by have := hub g hg; omega
  obtain ⟨cs, hl⟩ := h.l
  obtain ⟨ds, hds, hdk⟩ := h.d
  refine ⟨h.sp, kc (by omega) h.c0, kc (by omega) h.c1, kc (by omega) h.c2, (h.c3.keep g1 p1).set_same, kc (by omega) h.c4, kc (by omega) h.c5, kc (by omega) h.c6, kr h.f (P.f _ (by simp)).symm (P.p _ (by simp)), ?_, h.fl, ?_, ?_, ?_, kr h.c (P.b _ (by simp)) (P.p _ (by simp)),
    ⟨cs, kr hl (P.b _ (by simp)) (P.p _ (by simp))⟩, ⟨ds, ki hds (P.b _ (by simp)) (P.p _ (by simp)), hdk⟩, ?_, ?_, ?_⟩
  · rw [List.length_append, List.length_singleton]
    exact rowKept hB k2 hnB
  · simp [h.bl]
  · intro j hj
    have hm : fs[j] ∈ fs := List.getElem_mem hj
    exact ki (h.fi j hj) (P.b _ (by simp [hm])) (P.p _ (by simp [hm]))
  · intro j hj
    rw [getD_snoc]
    by_cases hlt : j < bs.length
    · have hm : bs[j] ∈ bs := List.getElem_mem hlt
      rw [List.getElem_append_left hlt, if_pos (by rw [← h.bl]; exact hlt)]
      exact ki (h.bi j hlt) (P.b _ (by simp [hm])) (P.p _ (by simp [hm]))
    · have hje : j = bs.length := by simp at hj; omega
      subst hje
      rw [if_neg (by rw [← h.bl]; omega), if_pos h.bl]
      simp only [List.getElem_append_right (Nat.le_refl _), Nat.sub_self, List.getElem_cons_zero]
      exact hu.kept k2 hnu
  · intro x hx g hg
    have hx' : x = B' ∨ x = u ∨ x ∈ F :: B :: C :: L :: D :: (fs ++ bs) := by
      simp only [List.mem_cons, List.mem_append, List.not_mem_nil, or_false] at hx ⊢
      rcases hx with hx | hx | hx | hx | hx | hx | hx | hx <;> simp [hx]
    rcases hx' with rfl | rfl | hx'
    · rcases hBb g hg with h1 | h1
      · exact h.own B (by simp) g h1
      · exact hS g h1
    · exact hS g (hub g hg)
    · exact h.own x hx' g hg
  · have h1 := pw_grow h.ap h.all_lt (k := 2) (by simp) (v' := B') hBb
    have h2 : (u :: (ptr p :: F :: B' :: C :: L :: D :: (fs ++ bs))).Pairwise Off2 := by
      refine List.pairwise_cons.2 ⟨fun x hx => ?_, h1⟩
      have hx' : x = B' ∨ x ∈ ptr p :: F :: B :: C :: L :: D :: (fs ++ bs) := by
        simp only [List.mem_cons, List.mem_append] at hx ⊢
        rcases hx with hx | hx | hx | hx | hx | hx | hx | hx <;> simp [hx]
      rcases hx' with rfl | hx'
      · exact hne.symm
      · exact off_fresh hub (h.all_lt x hx')
    have h3 : (ptr p :: F :: B' :: C :: L :: D :: (fs ++ (bs ++ [u]))) = (ptr p :: F :: B' :: C :: L :: D :: (fs ++ bs)) ++ u :: [] := by simp
    rw [h3]
    refine h2.perm ?_ (fun {a b} h => Off2.symm h)
    have := (List.perm_middle (l₁ := ptr p :: F :: B' :: C :: L :: D :: (fs ++ bs)) (l₂ := []) (a := u)).symm
    rwa [List.append_nil] at this
  · have k3 : Chg (fun b => B.ownBlock = some b ∨ b = p) w (w1.setCell ⟨p, 3, none⟩ B') := Chg.trans (g1.mono fun _ _ h => .inl h) (k2.mono fun _ _ h => .inr h)
    refine h.ps.turn k3 (fun x hx e => e.elim (off_n1 (P.b _ (by simp)) x hx) (off_ptr (P.p L (by simp)) x hx)) (fun x hx => hx.elim (fun h => .inl ⟨B, by simp, h⟩) (fun h => .inl ⟨ptr p, by simp, by rw [show x = p from h]; rfl⟩)) (fun _ h => h) (fun v hv x hx => ?_)
    have hv' : v = B' ∨ v = u ∨ v ∈ ptr p :: F :: B :: C :: L :: D :: (fs ++ bs) := by
      simp only [List.mem_cons, List.mem_append, List.not_mem_nil, or_false] at hv ⊢
      rcases hv with hv | hv | hv | hv | hv | hv | hv | hv | hv <;> simp [hv]
    rcases hv' with rfl | rfl | hv'
    · rcases hBb x hx with h3 | h3
      · exact .inl ⟨B, by simp, h3⟩
      · exact .inr h3
    · exact .inr (hub x hx)
    · exact .inl ⟨v, hv', hx⟩
end
end Go.Proofs.Ytplabnjdhkmmkaa
end
section
set_option linter.unusedSimpArgs false
set_option linter.unusedVariables false
namespace Go.Proofs.Ytplabnjdhkmmkaa
open Go.ChangeShapes Go.WideShapes Go.ChangeAt Go.RowKit
attribute [local go_sem ↓] Go.wp_at_zero Go.wp_at_succ
theorem infoLst : (Try.prog.info? 23).map (fun i => (i.zero, i.size, i.bytes)) = some (some (.slice none 0 0), 1, 24) := by kernel_rfl
theorem infoCar : (Try.prog.info? 139).map (fun i => (i.zero, i.size, i.bytes)) = some (some (.agg #[.bool false, .int .i64 0]), 2, 16) := by kernel_rfl
theorem mk_cars (u : World) : (Instr.makeSlice 34 (.int .i64 4) (.int .i64 4)).run Try.prog u = .ok (.slice (some ⟨u.heap.size, 0, none⟩) 4 4) (u.alloc (.cells (madeCells #[.bool false, .int .i64 0] 8) 139)) := by
  obtain ⟨i0, hi, hz0, hz1, hz2⟩ := info_parts infoCar
  have h := run_make (P := Try.prog) u 34 139 i0 (.agg #[.bool false, .int .i64 0]) Try.underlying34 hi hz0 .i64 .i64 4 4 (by omega) (Int.le_refl _) (by rw [hz2]; omega) (by omega)
  simpa [hz1, Value.cells] using h
theorem heap_new {w : World} {i : Nat} {o : Obj} (h : i = w.heap.size) : (w.alloc o).heap[i]? = some o := by
  subst h
  exact Array.getElem?_push_size
theorem heap_old {w : World} {i : Nat} {o x : Obj} (h : w.heap[i]? = some x) : (w.alloc o).heap[i]? = some x := by
  have := (Array.getElem?_eq_some_iff.1 h).1
  show (w.heap.push o)[i]? = some x
  rw [Array.getElem?_push, if_neg (by omega)]
  exact h
end Go.Proofs.Ytplabnjdhkmmkaa
end
section
set_option linter.unusedSimpArgs false
set_option linter.unusedVariables false
set_option maxRecDepth 100000
set_option maxHeartbeats 8000000
namespace Go.Proofs.Ytplabnjdhkmmkaa
open Go.ChangeShapes Go.WideShapes Go.ChangeAt Go.RowKit
attribute [local go_sem ↓] Go.wp_at_zero Go.wp_at_succ
/-- 'out = append(out, list)' on a row of lists -/
theorem wp_append_lst {w : World} {ops : Array Oper} {rest : List Oper} {o : Oper} {a : Act} {Q : Exit → Act → World → Prop} (hgd : o.guard = none) (s x : Operand)
    (ho : o.op = .call { callee := .builtin .append, args := #[s, x], argTypes := #[33, 33] })
    (v : Value) (fs : List Value) (hs : a.eval s = v) (hown : w.ownsRow 0 23 1 v fs.length fs)
    (g : Nat) (u : Value) (hx : a.eval x = .slice (some ⟨g, 0, none⟩) 1 1) (hc : w.cell? ⟨g, 0, none⟩ = some u) (hu : u.oneCell' = true) (hlen : fs.length ≤ 1000000)
    (h : ∀ v' w', w'.ownsRow 0 23 1 v' (fs.length + 1) (fs ++ [u]) → Chg (fun b => v.ownBlock = some b) w w' → (∀ b, v'.ownBlock = some b → v.ownBlock = some b ∨ w.heap.size ≤ b) → wpList Try.prog ops Q rest (a.put o.dst v') w') : wpList Try.prog ops Q (o :: rest) a w := by
  obtain ⟨i0, hi, hz0, hz1, hz2⟩ := info_parts infoLst
  refine wpList_append_own2 (P := Try.prog) hgd s x 33 ho 0 23 i0 (.slice none 0 0) 1 24 Try.underlying33 hi hz0 hz1 hz2 rfl (by decide) v fs.length _ hs hown ⟨g, 0, none⟩ 1 1 [u] hx rfl ?_ ?_ ?_ ?_ (Nat.zero_le _) ?_
  · intro j r hr
    cases j with
    | zero => simp only [List.getElem?_cons_zero, Option.some.injEq] at hr; subst hr; rw [add_zero]; exact hc
    | succ j => simp at hr
  · intro r hr; simp at hr; subst hr; exact hu
  · unfold Go.maxLen; omega
  · omega
  · intro v' w' k1 k2 k3
    exact h v' w' k1 (Chg.of_grown k2) k3
def halfMM (n : Int) (i j : Nat) : MachM := ⟨n, 0, List.replicate i [], List.replicate j [], List.replicate 4 (false, 0), 0⟩
theorem halfM_all (n : Nat) : halfMM n n n = newM n := by simp [halfMM, newM]
theorem halfF (n : Int) (i j : Nat) : ({ halfMM n i j with fr := (halfMM n i j).fr ++ [[]] } : MachM) = halfMM n (i + 1) j := by simp [halfMM, List.replicate_succ']
theorem halfB (n : Int) (i j : Nat) : ({ halfMM n i j with bk := (halfMM n i j).bk ++ [[]] } : MachM) = halfMM n i (j + 1) := by simp [halfMM, List.replicate_succ']
theorem half_start {w : World} {S : Nat → Prop} (n : Nat) {c : Nat} (hc : w.heap[c]? = some (.cells (madeCells #[.bool false, .int .i64 0] 8) 139)) (sc : S c) :
    MachV w S 0 (halfMM n 0 0) (.slice none 0 0) (.slice none 0 0) (.slice (some ⟨c, 0, none⟩) 4 4) (.slice none 0 0) (.slice none 0 0) [] [] := by
  have nil1 : OwnI w 0 (.slice none 0 0) [] := ⟨⟨by simp, .inl ⟨rfl, rfl⟩⟩, by simp⟩
  have hnil : ∀ v : Value, Off2 v (.slice none 0 0) := fun v g _ h => by simp [Value.ownBlock] at h
  refine ⟨⟨by simp, .inl ⟨rfl, rfl⟩⟩, ⟨by simp, .inl ⟨rfl, rfl⟩⟩, by simp [halfMM], by simp [halfMM], fun i h => by simp at h, fun i h => by simp at h, ?_, ⟨[], rfl, .inl ⟨rfl, rfl⟩⟩, ⟨[], nil1, by simp⟩, ?_, ?_, ⟨[], ⟨rfl, .inl ⟨rfl, rfl⟩⟩, fun i h => absurd h (by simp [halfMM])⟩⟩
  · refine ⟨by simp [halfMM, carCells], .inr ⟨c, 4, _, by simp [halfMM], Nat.zero_le _, hc, by simp [halfMM], by unfold Go.maxLen; omega, by simp [madeCells], ?_⟩⟩
    simp [halfMM, carCells, madeCells]
    rfl
  · intro v hv g hg
    simp only [List.mem_cons, List.nil_append, List.not_mem_nil, or_false] at hv
    rcases hv with rfl | rfl | rfl | rfl | rfl <;> simp [Value.ownBlock] at hg <;> subst hg <;> assumption
  · refine List.pairwise_cons.2 ⟨fun v hv => (hnil v).symm, List.pairwise_cons.2 ⟨fun v hv => (hnil v).symm, List.pairwise_cons.2 ⟨fun v hv => ?_, List.pairwise_cons.2 ⟨fun v hv => (hnil v).symm, List.pairwise_cons.2 ⟨fun v hv => (hnil v).symm, by simp⟩⟩⟩⟩⟩
    simp only [List.mem_cons, List.nil_append, List.not_mem_nil, or_false] at hv
    rcases hv with rfl | rfl <;> exact hnil _
theorem ownI_nil {w : World} {g : Nat} (h : w.heap[g]? = some (.cells #[] 2)) : OwnI w 0 (.slice (some ⟨g, 0, none⟩) 0 0) [] :=
  ⟨⟨rfl, .inr ⟨g, 0, _, rfl, Nat.zero_le _, h, Nat.le_refl _, by unfold Go.maxLen; omega, by simp, by simp⟩⟩, by simp⟩
theorem l07New_any (w : World) (n : Nat) (hn : 1 ≤ n ∧ n ≤ 24) :
    Calls Try.prog 34 #[.int .i64 n] w fun e w' => ∃ F B C fs bs, e = .returned (machVal (newM n) F B C (.slice none 0 0) (.slice none 0 0)) ∧ MachV w' (fun b => w.heap.size < b) 0 (newM n) F B C (.slice none 0 0) (.slice none 0 0) fs bs ∧ Up w w' := by
  have h2 := mk_cars
  go_enter Try.func34, Try.ntmps34
  go_wp2
  clear h2
  go_loopw [4] (fun i wr => ∃ j : Nat, j ≤ n ∧ i = .int .i64 j ∧ Hid (∃ F B C fs bs, MachX wr (fun b => w.heap.size < b) 0 (w.heap.size + 1 + 1) (halfMM n j j) F B C (.slice none 0 0) (.slice none 0 0) fs bs) ∧ Hid (Up (w.alloc (.cells #[.int .i64 0, .int .i64 0, .slice none 0 0, .slice none 0 0, .slice none 0 0, .slice none 0 0, .slice none 0 0] 37)) wr) ∧ w.heap.size + 2 < wr.heap.size) (fun i _ => n - (intOf i).toNat)
  case atStart =>
    have hcar : (w.alloc (.cells #[.int .i64 0, .int .i64 0, .slice none 0 0, .slice none 0 0, .slice none 0 0, .slice none 0 0, .slice none 0 0] 37)).heap.size = w.heap.size + 1 := by simp
    have hv := half_start (w := ((w.alloc (.cells #[.int .i64 0, .int .i64 0, .slice none 0 0, .slice none 0 0, .slice none 0 0, .slice none 0 0, .slice none 0 0] 37)).alloc (.cells (madeCells #[.bool false, .int .i64 0] 8) 139))) (S := (fun b => w.heap.size < b)) n (c := w.heap.size + 1) (heap_new (by simp)) (Nat.lt_succ_self _)
    have hx := hv.box (fun b hb => by simp at hb; show w.heap.size < b; omega) 37
    refine ⟨0, by omega, rfl, ⟨.slice none 0 0, .slice none 0 0, .slice (some ⟨w.heap.size + 1, 0, none⟩) 4 4, [], [], ?_⟩, ((Chg.refl Nowhere _).alloc _).alloc _, by simp⟩
    simpa [halfMM] using hx
  case round =>
    obtain ⟨j, hj, rfl, HX, HU, hsz⟩ := hrel
    obtain ⟨F, B, C, fs, bs, hX⟩ := HX.out
    clear HX
    have hS0 : NewIn (fun b => w.heap.size < b) wr := fun b hb => by show w.heap.size < b; omega
    by_cases hlt : j < n
    rotate_left
    · obtain rfl : n = j := by omega
      obtain ⟨A1, d1, rfl, -⟩ := ownsRow_shape hX.f
      obtain ⟨A2, d2, rfl, -⟩ := ownsRow_shape hX.b
      obtain ⟨A3, d3, rfl, -⟩ := ownsRow_shape hX.c
      rw [halfM_all] at hX
      have hV := Lib.hid hX.val
      have HU2 := Lib.hid HU.out
      have k0 : wr.cell? ⟨(w.heap.size + 1 + 1), 0, none⟩ = some (.int .i64 n) := hX.c0.1
      have k1 : wr.cell? ⟨(w.heap.size + 1 + 1), 1, none⟩ = some (.int .i64 0) := hX.c1.1
      have k2 : wr.cell? ⟨(w.heap.size + 1 + 1), 2, none⟩ = some (.slice A1 fs.length d1) := hX.c2.1
      have k3 : wr.cell? ⟨(w.heap.size + 1 + 1), 3, none⟩ = some (.slice A2 bs.length d2) := hX.c3.1
      have k4 : wr.cell? ⟨(w.heap.size + 1 + 1), 4, none⟩ = some (.slice A3 4 d3) := hX.c4.1
      have k5 : wr.cell? ⟨(w.heap.size + 1 + 1), 5, none⟩ = some (.slice none 0 0) := hX.c5.1
      have k6 : wr.cell? ⟨(w.heap.size + 1 + 1), 6, none⟩ = some (.slice none 0 0) := hX.c6.1
      have hz0 : (w.alloc (.cells #[.int .i64 0, .int .i64 0, .slice none 0 0, .slice none 0 0, .slice none 0 0, .slice none 0 0, .slice none 0 0] 37)).heap.size = w.heap.size + 1 := by simp
      have z0 : wr.cell? ⟨w.heap.size, 0, none⟩ = some (.int .i64 0) := Chg.cell HU2.out (cell_new _ _ _ _) id
      have y0 : wr.frozen? ⟨w.heap.size, 0, none⟩ = false := (Chg.frozen HU2.out (show (w.alloc (.cells #[.int .i64 0, .int .i64 0, .slice none 0 0, .slice none 0 0, .slice none 0 0, .slice none 0 0, .slice none 0 0] 37)).cell? ⟨w.heap.size, 0, none⟩ = some (.int .i64 0) from cell_new _ _ _ _) id).trans (frozen_new _ _ _ _)
      have z1 : wr.cell? ⟨w.heap.size, 1, none⟩ = some (.int .i64 0) := Chg.cell HU2.out (cell_new _ _ _ _) id
      have y1 : wr.frozen? ⟨w.heap.size, 1, none⟩ = false := (Chg.frozen HU2.out (show (w.alloc (.cells #[.int .i64 0, .int .i64 0, .slice none 0 0, .slice none 0 0, .slice none 0 0, .slice none 0 0, .slice none 0 0] 37)).cell? ⟨w.heap.size, 1, none⟩ = some (.int .i64 0) from cell_new _ _ _ _) id).trans (frozen_new _ _ _ _)
      have z2 : wr.cell? ⟨w.heap.size, 2, none⟩ = some (.slice none 0 0) := Chg.cell HU2.out (cell_new _ _ _ _) id
      have y2 : wr.frozen? ⟨w.heap.size, 2, none⟩ = false := (Chg.frozen HU2.out (show (w.alloc (.cells #[.int .i64 0, .int .i64 0, .slice none 0 0, .slice none 0 0, .slice none 0 0, .slice none 0 0, .slice none 0 0] 37)).cell? ⟨w.heap.size, 2, none⟩ = some (.slice none 0 0) from cell_new _ _ _ _) id).trans (frozen_new _ _ _ _)
      have z3 : wr.cell? ⟨w.heap.size, 3, none⟩ = some (.slice none 0 0) := Chg.cell HU2.out (cell_new _ _ _ _) id
      have y3 : wr.frozen? ⟨w.heap.size, 3, none⟩ = false := (Chg.frozen HU2.out (show (w.alloc (.cells #[.int .i64 0, .int .i64 0, .slice none 0 0, .slice none 0 0, .slice none 0 0, .slice none 0 0, .slice none 0 0] 37)).cell? ⟨w.heap.size, 3, none⟩ = some (.slice none 0 0) from cell_new _ _ _ _) id).trans (frozen_new _ _ _ _)
      have z4 : wr.cell? ⟨w.heap.size, 4, none⟩ = some (.slice none 0 0) := Chg.cell HU2.out (cell_new _ _ _ _) id
      have y4 : wr.frozen? ⟨w.heap.size, 4, none⟩ = false := (Chg.frozen HU2.out (show (w.alloc (.cells #[.int .i64 0, .int .i64 0, .slice none 0 0, .slice none 0 0, .slice none 0 0, .slice none 0 0, .slice none 0 0] 37)).cell? ⟨w.heap.size, 4, none⟩ = some (.slice none 0 0) from cell_new _ _ _ _) id).trans (frozen_new _ _ _ _)
      have z5 : wr.cell? ⟨w.heap.size, 5, none⟩ = some (.slice none 0 0) := Chg.cell HU2.out (cell_new _ _ _ _) id
      have y5 : wr.frozen? ⟨w.heap.size, 5, none⟩ = false := (Chg.frozen HU2.out (show (w.alloc (.cells #[.int .i64 0, .int .i64 0, .slice none 0 0, .slice none 0 0, .slice none 0 0, .slice none 0 0, .slice none 0 0] 37)).cell? ⟨w.heap.size, 5, none⟩ = some (.slice none 0 0) from cell_new _ _ _ _) id).trans (frozen_new _ _ _ _)
      have z6 : wr.cell? ⟨w.heap.size, 6, none⟩ = some (.slice none 0 0) := Chg.cell HU2.out (cell_new _ _ _ _) id
      have y6 : wr.frozen? ⟨w.heap.size, 6, none⟩ = false := (Chg.frozen HU2.out (show (w.alloc (.cells #[.int .i64 0, .int .i64 0, .slice none 0 0, .slice none 0 0, .slice none 0 0, .slice none 0 0, .slice none 0 0] 37)).cell? ⟨w.heap.size, 6, none⟩ = some (.slice none 0 0) from cell_new _ _ _ _) id).trans (frozen_new _ _ _ _)
      clear hX HU hz0 hS0 hlt hj hsz hn
      go_wp2
      exact bodyPost_ret (v := machVal (newM n) (.slice A1 fs.length d1) (.slice A2 bs.length d2) (.slice A3 4 d3) (.slice none 0 0) (.slice none 0 0)) (by simp [results, Try.results34, go_sem, machVal, newM, z0, z1, z2, z3, z4, z5, z6]) rfl ⟨_, _, _, _, _, rfl, hV.out.keep (((((((((Chg.refl (fun b => b = w.heap.size) wr).setCell (.inl rfl) _).setCell (.inl rfl) _).setCell (.inl rfl) _).setCell (.inl rfl) _).setCell (.inl rfl) _).setCell (.inl rfl) _).setCell (.inl rfl) _)) (fun b _ h1 h2 => by have h3 : w.heap.size < b := h1; omega), Chg.new (Chg.trans ((Chg.refl _ _).alloc _) HU2.out) (((((((((Chg.refl (fun b => b = w.heap.size) wr).setCell (.inl rfl) _).setCell (.inl rfl) _).setCell (.inl rfl) _).setCell (.inl rfl) _).setCell (.inl rfl) _).setCell (.inl rfl) _).setCell (.inl rfl) _)) (fun i hi hd => by omega)⟩
    obtain ⟨A1, d1, rfl, hl1, hm1, -⟩ := ownsRow_shape hX.f
    obtain ⟨A2, d2, rfl, hl2, hm2, -⟩ := ownsRow_shape hX.b
    have hln1 : fs.length ≤ 1000000 := by have := hX.fl; simp [halfMM] at this; omega
    have hln2 : bs.length ≤ 1000000 := by have := hX.bl; simp [halfMM] at this; omega
    have HX1 := Lib.hid hX
    clear hX
    have up1 : Up wr ((wr.alloc (.cells #[] 2)).alloc (.cells #[(.slice (some ⟨wr.heap.size, 0, none⟩) 0 0)] 23)) := ((Chg.refl Nowhere wr).alloc _).alloc _
    have D1 := HX1.out.c2.1
    have E1 := Chg.cell up1 D1 id
    have F1 := (Chg.frozen up1 D1 id).trans HX1.out.c2.2
    have O1 := Lib.hid (rowKept HX1.out.f up1 (fun _ _ hh => hh))
    have U1 := Lib.hid up1
    have N1 : ((wr.alloc (.cells #[] 2)).alloc (.cells #[(.slice (some ⟨wr.heap.size, 0, none⟩) 0 0)] 23)).cell? ⟨wr.heap.size + 1, 0, none⟩ = some (.slice (some ⟨wr.heap.size, 0, none⟩) 0 0) := (by first | (simp; done) | (have := cell_new (wr.alloc (.cells #[] 2)) #[(.slice (some ⟨wr.heap.size, 0, none⟩) 0 0)] 23 0; simpa using this))
    have HP1 : Hid (¬ (Value.slice A1 fs.length d1).ownBlock = some (w.heap.size + 1 + 1)) := Lib.hid (fun e => HX1.out.off_p (Value.slice A1 fs.length d1) (by simp) (w.heap.size + 1 + 1) e rfl)
    have HL1 : Hid (∀ b, (Value.slice A1 fs.length d1).ownBlock = some b → b < wr.heap.size) := Lib.hid (fun b e => (HX1.out.f.lt b e).2)
    clear up1
    go_wp2_with (first | (at_builtin; refine wp_append_lst rfl _ _ rfl _ fs rfl O1.out _ (.slice (some ⟨wr.heap.size, 0, none⟩) 0 0) rfl N1 rfl hln1 ?_; intro v1 w1 ha1 hb1 hc1; obtain ⟨Ea1, ea1, rfl, -⟩ := ownsRow_shape ha1; have D1 := Chg.cell hb1 E1 HP1.out; have F1 := (Chg.frozen hb1 E1 HP1.out).trans F1; have hb21 := Chg.trans (Chg.of_up U1.out) hb1; have hu1 : OwnI w1 0 (.slice (some ⟨wr.heap.size, 0, none⟩) 0 0) [] := (ownI_nil (heap_old (heap_new (by simp)))).kept hb1 (fun x hx hv => by have := HL1.out x hv; simp [Value.ownBlock] at hx; omega); have hx1 := HX1.out.pushF hS0 hb21 ha1 hu1 (fun b hb => (hc1 b hb).imp id fun h => Nat.le_trans U1.out.size h) (fun b hb => by simp [Value.ownBlock] at hb; omega) (fun b h1 h2 => by simp [Value.ownBlock] at h2; have h3 := U1.out.size; simp at h3; exact (hc1 b h1).elim (fun h4 => by have := HL1.out b h4; omega) (fun h4 => by simp at h4; omega)); have hz1 := hb21.size; have hu01 := hb21; rw [halfF] at hx1; have hzs : (w1.setCell ⟨(w.heap.size + 1 + 1), 2, none⟩ (.slice Ea1 (fs.length + 1) ea1)).heap.size = w1.heap.size := (by simp [World.setCell]); have hz1b : w.heap.size + 2 < (w1.setCell ⟨(w.heap.size + 1 + 1), 2, none⟩ (.slice Ea1 (fs.length + 1) ea1)).heap.size := (by have h9 : w.heap.size + 2 < w1.heap.size := (by omega); simpa [World.setCell] using h9); have G1 : Chg (fun b => w.heap.size < b) wr (w1.setCell ⟨(w.heap.size + 1 + 1), 2, none⟩ (.slice Ea1 (fs.length + 1) ea1)) := Chg.setCell (hb21.mono fun b _ h => HX1.out.own (Value.slice A1 fs.length d1) (by simp) b h) (.inl (show w.heap.size < (w.heap.size + 1 + 1) by omega)) _; have HX2 := Lib.hid hx1; clear ha1 hb1 hc1 hb21 hu1 hx1 E1; have up2 : Up (w1.setCell ⟨(w.heap.size + 1 + 1), 2, none⟩ (.slice Ea1 (fs.length + 1) ea1)) (((w1.setCell ⟨(w.heap.size + 1 + 1), 2, none⟩ (.slice Ea1 (fs.length + 1) ea1)).alloc (.cells #[] 2)).alloc (.cells #[(.slice (some ⟨w1.heap.size, 0, none⟩) 0 0)] 23)) := ((Chg.refl Nowhere (w1.setCell ⟨(w.heap.size + 1 + 1), 2, none⟩ (.slice Ea1 (fs.length + 1) ea1))).alloc _).alloc _; have D2 := HX2.out.c3.1; have E2 := Chg.cell up2 D2 id; have F2 := (Chg.frozen up2 D2 id).trans HX2.out.c3.2; have O2 := Lib.hid (rowKept HX2.out.b up2 (fun _ _ hh => hh)); have U2 := Lib.hid up2; have N2 : (((w1.setCell ⟨(w.heap.size + 1 + 1), 2, none⟩ (.slice Ea1 (fs.length + 1) ea1)).alloc (.cells #[] 2)).alloc (.cells #[(.slice (some ⟨w1.heap.size, 0, none⟩) 0 0)] 23)).cell? ⟨w1.heap.size + 1, 0, none⟩ = some (.slice (some ⟨w1.heap.size, 0, none⟩) 0 0) := (by first | (simp; done) | (have := cell_new ((w1.setCell ⟨(w.heap.size + 1 + 1), 2, none⟩ (.slice Ea1 (fs.length + 1) ea1)).alloc (.cells #[] 2)) #[(.slice (some ⟨w1.heap.size, 0, none⟩) 0 0)] 23 0; simpa using this)); have HP2 : Hid (¬ (Value.slice A2 bs.length d2).ownBlock = some (w.heap.size + 1 + 1)) := Lib.hid (fun e => HX2.out.off_p (Value.slice A2 bs.length d2) (by simp) (w.heap.size + 1 + 1) e rfl); have HL2 : Hid (∀ b, (Value.slice A2 bs.length d2).ownBlock = some b → b < (w1.setCell ⟨(w.heap.size + 1 + 1), 2, none⟩ (.slice Ea1 (fs.length + 1) ea1)).heap.size) := Lib.hid (fun b e => (HX2.out.b.lt b e).2); clear up2) | (at_builtin; refine wp_append_lst rfl _ _ rfl _ bs rfl O2.out _ (.slice (some ⟨w1.heap.size, 0, none⟩) 0 0) rfl N2 rfl hln2 ?_; intro v2 w2 ha2 hb2 hc2; obtain ⟨Ea2, ea2, rfl, -⟩ := ownsRow_shape ha2; have D2 := Chg.cell hb2 E2 HP2.out; have F2 := (Chg.frozen hb2 E2 HP2.out).trans F2; have hb22 := Chg.trans (Chg.of_up U2.out) hb2; have hu2 : OwnI w2 0 (.slice (some ⟨w1.heap.size, 0, none⟩) 0 0) [] := (ownI_nil (heap_old (heap_new (by simp)))).kept hb2 (fun x hx hv => by have := HL2.out x hv; simp [Value.ownBlock] at hx; omega); have hx2 := HX2.out.pushB (fun b hb => by show w.heap.size < b; omega) hb22 ha2 hu2 (fun b hb => (hc2 b hb).imp id fun h => Nat.le_trans U2.out.size h) (fun b hb => by simp [Value.ownBlock] at hb; omega) (fun b h1 h2 => by simp [Value.ownBlock] at h2; have h3 := U2.out.size; simp at h3; exact (hc2 b h1).elim (fun h4 => by have := HL2.out b h4; omega) (fun h4 => by simp at h4; omega)); have hz2 := hb22.size; have hu02 := hb22; rw [halfB] at hx2; have HX3 := Lib.hid hx2; have G2 : Chg (fun b => w.heap.size < b) (w1.setCell ⟨(w.heap.size + 1 + 1), 2, none⟩ (.slice Ea1 (fs.length + 1) ea1)) (w2.setCell ⟨(w.heap.size + 1 + 1), 3, none⟩ (.slice Ea2 (bs.length + 1) ea2)) := Chg.setCell (hb22.mono fun b _ h => HX2.out.own (Value.slice A2 bs.length d2) (by simp) b h) (.inl (show w.heap.size < (w.heap.size + 1 + 1) by omega)) _; clear ha2 hb2 hc2 hb22 hu2 hx2 E2))
    go_roundw
    case rel =>
      refine ⟨j + 1, by omega, by go_num, ⟨_, _, _, _, _, HX3.out⟩, Chg.new (Chg.new HU.out G1 fun i hi hd => by simp at hi; omega) G2 fun i hi hd => by simp at hi; omega, ?_⟩
      have := G2.size
      omega
    case measure => first | (simp [intOf]; done) | (simp [intOf]; omega)
end Go.Proofs.Ytplabnjdhkmmkaa
end
section
set_option linter.unusedSimpArgs false
set_option linter.unusedVariables false
namespace Go.Proofs.Ytplabnjdhkmmkaa
open Go.ChangeShapes Go.WideShapes Go.ChangeAt Go.RowKit
theorem getD_some {α : Type} {l : List α} {i : Nat} {d : α} (h : i < l.length) : l.getD i d = l[i] := by rw [List.getD_eq_getElem?_getD, List.getElem?_eq_getElem h]; rfl
section
variable {w w' : World} {S T : Nat → Prop} {K p : Nat} {m : MachM} {F B C L D : Value} {fs bs : List Value}
/-- needle i of the front bed is read -/
theorem MachX.frAt (h : MachX w S K p m F B C L D fs bs) {i : Nat} (hi : i < m.fr.length) : ∃ g c A k, F = .slice (some ⟨g, 0, none⟩) m.fr.length c ∧ w.cell? ⟨g, i, none⟩ = some (.slice A m.fr[i].length k) ∧ OwnI w 0 (.slice A m.fr[i].length k) m.fr[i] := by
  have hl := h.fl
  obtain ⟨g, c, hF, -, -, -, hc⟩ := ownsRow_some h.f (by omega)
  have ho := h.fi i (by omega)
  rw [getD_some hi] at ho
  obtain ⟨A, k, hv, -⟩ := ho.ints.shape
  refine ⟨g, c, A, k, by rw [hF, hl], ?_, hv ▸ ho⟩
  rw [← hv]
  exact (hc i (by omega)).1
/-- needle i of the back bed is read -/
theorem MachX.bkAt (h : MachX w S K p m F B C L D fs bs) {i : Nat} (hi : i < m.bk.length) : ∃ g c A k, B = .slice (some ⟨g, 0, none⟩) m.bk.length c ∧ w.cell? ⟨g, i, none⟩ = some (.slice A m.bk[i].length k) ∧ OwnI w 0 (.slice A m.bk[i].length k) m.bk[i] := by
  have hl := h.bl
  obtain ⟨g, c, hB, -, -, -, hc⟩ := ownsRow_some h.b (by omega)
  have ho := h.bi i (by omega)
  rw [getD_some hi] at ho
  obtain ⟨A, k, hv, -⟩ := ho.ints.shape
  refine ⟨g, c, A, k, by rw [hB, hl], ?_, hv ▸ ho⟩
  rw [← hv]
  exact (hc i (by omega)).1
/-- loop t is read -/
theorem MachX.infoAt (h : MachX w S K p m F B C L D fs bs) {t : Nat} (ht : t < m.nl) : ∃ (g cL : Nat) (k c b a d : Int) (A : Option Addr) (n : Nat) (xs : List Int) (P : Nat → Prop), L = .slice (some ⟨g, 0, none⟩) m.nl cL ∧
    w.cell? ⟨g, t * 6, none⟩ = some (.int .i64 k) ∧ w.cell? ⟨g, t * 6 + 1, none⟩ = some (.int .i64 c) ∧ w.cell? ⟨g, t * 6 + 2, none⟩ = some (.int .i64 b) ∧ w.cell? ⟨g, t * 6 + 3, none⟩ = some (.int .i64 a) ∧ w.cell? ⟨g, t * 6 + 4, none⟩ = some (.int .i64 d) ∧ w.cell? ⟨g, t * 6 + 5, none⟩ = some (.slice A xs.length n) ∧ Ints w P (.slice A xs.length n) xs ∧ xs.length ≤ 4 := by
  obtain ⟨cs, h1, h2⟩ := h.ps
  obtain ⟨k, c, b, a, d, A, n, xs, P, he, hx, hl, -⟩ := h2 t ht
  have hcl : cs.length = m.nl * 6 := h1.1
  obtain ⟨g, cL, hL, -, -, -, hc⟩ := ownsRow_some h1 (by omega)
  have key : ∀ j (u : Value), j < 6 → [Value.int .i64 k, .int .i64 c, .int .i64 b, .int .i64 a, .int .i64 d, .slice A xs.length n][j]? = some u → w.cell? ⟨g, t * 6 + j, none⟩ = some u := fun j u hj hu => by
    rw [← he, List.getElem?_take_of_lt hj, List.getElem?_drop] at hu
    obtain ⟨h3, h4⟩ := List.getElem?_eq_some_iff.1 hu
    have := (hc _ h3).1
    rw [this, h4]
  exact ⟨g, cL, k, c, b, a, d, A, n, xs, P, hL, by simpa using key 0 _ (by omega) rfl, key 1 _ (by omega) rfl, key 2 _ (by omega) rfl, key 3 _ (by omega) rfl, key 4 _ (by omega) rfl, key 5 _ (by omega) rfl, hx, hl⟩
end
/-- a machine that is being copied: its first needles and loops -/
def partM (m : MachM) (i j t : Nat) : MachM := ⟨m.wd, m.rack, m.fr.take i, m.bk.take j, m.cs, t⟩
theorem partF {m : MachM} {i j t : Nat} (h : i < m.fr.length) : ({ partM m i j t with fr := (partM m i j t).fr ++ [m.fr[i]] } : MachM) = partM m (i + 1) j t := by unfold partM; rw [List.take_succ_eq_append_getElem h]
theorem partB {m : MachM} {i j t : Nat} (h : j < m.bk.length) : ({ partM m i j t with bk := (partM m i j t).bk ++ [m.bk[j]] } : MachM) = partM m i (j + 1) t := by unfold partM; rw [List.take_succ_eq_append_getElem h]
theorem partM_all (m : MachM) : partM m m.fr.length m.bk.length m.nl = m := by unfold partM; simp
/-- the copy's beginning: carriers and dropped loops -/
theorem half2 {w : World} {S : Nat → Prop} {K : Nat} {m : MachM} {C D : Value} {ds : List Int} (hc : w.ownsRow 0 139 2 C m.cs.length (carCells m.cs)) (hd : OwnI w 0 D ds) (hk : ds.length ≤ K) (sc : ∀ g, C.ownBlock = some g → S g) (sd : ∀ g, D.ownBlock = some g → S g) (hcd : Off2 C D) :
    MachV w S K (partM m 0 0 0) (.slice none 0 0) (.slice none 0 0) C (.slice none 0 0) D [] [] := by
  have hnil : ∀ v : Value, Off2 v (.slice none 0 0) := fun v g _ h => by simp [Value.ownBlock] at h
  refine ⟨⟨by simp, .inl ⟨rfl, rfl⟩⟩, ⟨by simp, .inl ⟨rfl, rfl⟩⟩, by simp [partM], by simp [partM], fun i h => by simp at h, fun i h => by simp at h, hc, ⟨[], rfl, .inl ⟨rfl, rfl⟩⟩, ⟨ds, hd, hk⟩, ?_, ?_, ⟨[], ⟨rfl, .inl ⟨rfl, rfl⟩⟩, fun i h => absurd h (by simp [partM])⟩⟩
  · intro v hv g hg
    simp only [List.mem_cons, List.nil_append, List.not_mem_nil, or_false] at hv
    rcases hv with rfl | rfl | rfl | rfl | rfl
    · simp [Value.ownBlock] at hg
    · simp [Value.ownBlock] at hg
    · exact sc g hg
    · simp [Value.ownBlock] at hg
    · exact sd g hg
  · refine List.pairwise_cons.2 ⟨fun v hv => (hnil v).symm, List.pairwise_cons.2 ⟨fun v hv => (hnil v).symm, List.pairwise_cons.2 ⟨fun v hv => ?_, List.pairwise_cons.2 ⟨fun v hv => (hnil v).symm, by simp⟩⟩⟩⟩
    simp only [List.mem_cons, List.nil_append, List.not_mem_nil, or_false] at hv
    rcases hv with rfl | rfl
    · exact hnil _
    · exact hcd
/-- the copy's beginning, behind a pointer -/
theorem half_at {w : World} {S : Nat → Prop} {K g : Nat} {m : MachM} {C D : Value} (h : MachV w S K (partM m 0 0 0) (.slice none 0 0) (.slice none 0 0) C (.slice none 0 0) D [] []) (sg : S g) (hC : C.ownBlock ≠ some g) (hD : D.ownBlock ≠ some g)
    (c0 : CellU w ⟨g, 0, none⟩ (.int .i64 m.wd)) (c1 : CellU w ⟨g, 1, none⟩ (.int .i64 m.rack)) (c2 : CellU w ⟨g, 2, none⟩ (.slice none 0 0)) (c3 : CellU w ⟨g, 3, none⟩ (.slice none 0 0)) (c4 : CellU w ⟨g, 4, none⟩ C) (c5 : CellU w ⟨g, 5, none⟩ (.slice none 0 0)) (c6 : CellU w ⟨g, 6, none⟩ D) :
    MachX w S K g (partM m 0 0 0) (.slice none 0 0) (.slice none 0 0) C (.slice none 0 0) D [] [] := by
  refine ⟨sg, c0, c1, c2, c3, c4, c5, c6, h.f, h.b, h.fl, h.bl, h.fi, h.bi, h.c, h.l, h.d, h.own, List.pairwise_cons.2 ⟨fun v hv x hx hvx => ?_, h.ap⟩, ⟨[], ⟨rfl, .inl ⟨rfl, rfl⟩⟩, fun i h => absurd h (by simp [partM])⟩⟩
  obtain rfl : g = x := by simpa [Value.ownBlock] using hx
  simp only [List.mem_cons, List.nil_append, List.not_mem_nil, or_false] at hv
  rcases hv with rfl | rfl | rfl | rfl | rfl
  · simp [Value.ownBlock] at hvx
  · simp [Value.ownBlock] at hvx
  · exact hC hvx
  · simp [Value.ownBlock] at hvx
  · exact hD hvx
/-- 'out = append(out, list)' on a row of lists, at a step of a region that draws its order -/
theorem step_append_lst {w : World} {ops : Array Oper} {o : Oper} {a : Act} {K : Act → World → Prop} {E : Prop} {Q : Exit → Act → World → Prop} (hgd : o.guard = none) (s x : Operand)
    (ho : o.op = .call { callee := .builtin .append, args := #[s, x], argTypes := #[33, 33] })
    (v : Value) (fs : List Value) (hs : a.eval s = v) (hown : w.ownsRow 0 23 1 v fs.length fs)
    (g : Nat) (u : Value) (hx : a.eval x = .slice (some ⟨g, 0, none⟩) 1 1) (hc : w.cell? ⟨g, 0, none⟩ = some u) (hu : u.oneCell' = true) (hlen : fs.length ≤ 1000000)
    (h : ∀ v' w', w'.ownsRow 0 23 1 v' (fs.length + 1) (fs ++ [u]) → Chg (fun b => v.ownBlock = some b) w w' → (∀ b, v'.ownBlock = some b → v.ownBlock = some b ∨ w.heap.size ≤ b) → K (a.put o.dst v') w') :
    if Region.wanted o (yielded ops a.tmps) = true then Oper.wp Try.prog o a w K Q else E := by
  have hw : Region.wanted o (yielded ops a.tmps) = true := by simp [Region.wanted, hgd]
  rw [if_pos hw]
  obtain ⟨i0, hi, hz0, hz1, hz2⟩ := info_parts infoLst
  refine wp_app_own2M (P := Try.prog) s x 33 ho 0 23 i0 (.slice none 0 0) 1 24 Try.underlying33 hi hz0 hz1 hz2 rfl (by decide) v fs.length _ hs hown ⟨g, 0, none⟩ 1 1 [u] hx rfl ?_ ?_ ?_ ?_ (Nat.zero_le _) ?_
  · intro j r hr
    cases j with
    | zero => simp only [List.getElem?_cons_zero, Option.some.injEq] at hr; subst hr; rw [add_zero]; exact hc
    | succ j => simp at hr
  · intro r hr; simp at hr; subst hr; exact hu
  · unfold Go.maxLen; omega
  · omega
  · intro v' w' k1 k2 k3
    exact h v' w' k1 (Chg.of_grown k2) k3
end Go.Proofs.Ytplabnjdhkmmkaa
end
section
set_option maxRecDepth 100000
set_option maxHeartbeats 2000000
set_option linter.unusedSimpArgs false
set_option linter.unusedVariables false
namespace Go.Proofs.Ytplabnjdhkmmkaa
open Go.ChangeShapes Go.WideShapes Go.ChangeAt Go.RowKit
theorem d8Same_any (w : World) (S T : Nat → Prop) (v u : Value) (xs : List Int) (h : Ints w S v xs) (h2 : Ints w T u xs) :
    Calls Try.prog 13 #[v, u] w fun e w' => e = .returned (.bool true) ∧ Drawn w w' := by
  obtain ⟨A, c, rfl, hlc, hcm, -, hr, hnn⟩ := h
  obtain ⟨A2, c2, rfl, hlc2, hcm2, -, hr2, -⟩ := h2
  have hz : ((xs.length : Int) != xs.length) = false := by simp
  go_enter Try.func13, Try.ntmps13
  go_wp2
  go_loopw [5] (fun i wr => ∃ j n : Nat, j ≤ xs.length ∧ i = .int .i64 j ∧ wr = w.drewN n) (fun i _ => xs.length - (intOf i).toNat)
  case atStart => exact ⟨0, 0, by omega, rfl, rfl⟩
  case round =>
    obtain ⟨j, n, hj, rfl, rfl⟩ := hrel
    by_cases hlt : j < xs.length
    · obtain ⟨b, o, rfl, -, hbl, hc⟩ := hr (by omega)
      obtain ⟨b2, o2, rfl, -, hbl2, hc2⟩ := hr2 (by omega)
      have hcj := (hc j hlt).1
      have hcj2 := (hc2 j hlt).1
      have he : ((xs[j] : Int) != xs[j]) = false := by simp
      clear hc hc2 hr hr2
      go_wp2
      go_quiet (fail)
      go_wp2
      go_roundw
      case rel => exact ⟨j + 1, _, by omega, by go_num, rfl⟩
      case measure => simp [intOf]; omega
    · go_wp2
      go_ret
      exact ⟨rfl, _, rfl⟩
theorem d8Full_raw (w : World) (wd : Int) (gf cf gb cb : Nat) (fr : List (List Int)) (C L D : Value) (hfl : fr.length = 24) (hf : ∀ i, i < 24 → ∃ A k, w.cell? ⟨gf, i, none⟩ = some (.slice A (fr.getD i []).length k)) (hk : ∀ i, i < 24 → ∃ A k, w.cell? ⟨gb, i, none⟩ = some (.slice A 0 k)) :
    Calls Try.prog 11 #[.agg #[.int .i64 wd, .int .i64 0, .slice (some ⟨gf, 0, none⟩) 24 cf, .slice (some ⟨gb, 0, none⟩) 24 cb, C, L, D]] w fun e w' => ∃ v, e = .returned (.tuple #[v, .bool true]) ∧ Ints w' (New w.heap.size w'.heap.size) v (fullTo fr fr.length) ∧ Up w w' := by
  have HF := Lib.hid hf
  have HK := Lib.hid hk
  have HFL := Lib.hid hfl
  clear hf hk hfl
  go_enter Try.func11, Try.ntmps11
  go_wp2
  obtain ⟨w1, hw1⟩ : ∃ x, x = (w.alloc (.cells #[.int .i64 wd, .int .i64 0, .slice (some ⟨gf, 0, none⟩) 24 cf, .slice (some ⟨gb, 0, none⟩) 24 cb, C, L, D] 37)) := ⟨_, rfl⟩
  have W1 := Lib.hid hw1
  have hz1 : w1.heap.size = w.heap.size + 1 := by rw [hw1]; simp
  have U1 := Lib.hid (show Up w w1 by rw [hw1]; exact (Chg.refl _ _).alloc _)
  have B1 := Lib.hid (show w1.cell? ⟨w.heap.size, 1, none⟩ = some (.int .i64 0) by rw [hw1]; exact cell_new _ _ _ 1)
  have B2 := Lib.hid (show w1.cell? ⟨w.heap.size, 2, none⟩ = some (.slice (some ⟨gf, 0, none⟩) 24 cf) by rw [hw1]; exact cell_new _ _ _ 2)
  have B3 := Lib.hid (show w1.cell? ⟨w.heap.size, 3, none⟩ = some (.slice (some ⟨gb, 0, none⟩) 24 cb) by rw [hw1]; exact cell_new _ _ _ 3)
  rw [← hw1]
  clear hw1
  have HZ1 := Lib.hid hz1
  go_loopw [4, 6] (fun q i wr => ∃ (j : Nat), j ≤ 24 ∧ i = .int .i64 j ∧ Hid (OwnI wr w1.heap.size q (fullTo fr j)) ∧ Hid (Up w1 wr)) (fun _ i _ => 24 - (intOf i).toNat)
  case atStart => exact ⟨0, by omega, rfl, Lib.hid (by first | exact OwnI.made w1 _ (Nat.le_refl _) | (have h9 := OwnI.made w1 w1.heap.size (Nat.le_refl _); rw [← HZ1.out]; exact h9)), Lib.hid ((Chg.refl _ _).alloc _)⟩
  case round =>
    obtain ⟨j, hj, rfl, ho, hu⟩ := hrel
    have b2 := hu.out.cell B2.out id
    by_cases hlt : j < 24
    · obtain ⟨A, n, hc⟩ := HF.out j hlt
      have hcj := hu.out.cell (U1.out.cell hc id) id
      have HCJ := Lib.hid hc
      clear hc
      by_cases h0 : fr.getD j [] = []
      · have HN := Lib.hid (fullTo_no h0)
        rw [h0] at hcj
        simp only [List.length_nil] at hcj
        clear h0
        go_wp2
        go_roundw
        case rel => exact ⟨j + 1, by omega, by go_num, Lib.hid (by rw [HN.out]; exact ho.out), hu⟩
        case measure => first | (simp [intOf]; done) | (simp [intOf]; omega)
      · have HN := Lib.hid (fullTo_yes h0)
        obtain ⟨n1, hn1⟩ : ∃ n1, n1 = (fr.getD j []).length := ⟨_, rfl⟩
        rw [← hn1] at hcj
        have hn0 : 0 < n1 := by rw [hn1]; exact List.length_pos_iff.2 h0
        have HLN := Lib.hid (show (fullTo fr j).length ≤ 1099511627776 by have := fullTo_length fr j; omega)
        have HJI := Lib.hid (show I64 ((j : Nat) : Int) by unfold I64; omega)
        have d0 : decide ((n1 : Int) > 0) = true := decide_eq_true (by omega)
        have hzz := hu.out.size
        clear h0 hn1
        go_wp2_with (at_builtin; refine wp_append_int rfl _ _ rfl w1.heap.size _ (fullTo fr j) rfl (ho.out.up (by repeat (first | exact Chg.refl _ _ | apply Chg.drew | apply Chg.drewN | refine Chg.alloc ?_ _))) _ ((j : Nat) : Int) rfl (cell_at (by simp [World.size_alloc]) rfl) HJI.out HLN.out (by simp [World.size_alloc]; omega) ?_; intro v9 w9 ho9 _ hg9; have HO9 := Lib.hid ho9; have HG9 := Lib.hid hg9; clear ho9 hg9)
        go_roundw
        case rel => exact ⟨j + 1, by omega, by go_num, Lib.hid (by rw [HN.out]; exact HO9.out), Lib.hid (Chg.new (hu.out.alloc _) HG9.out (fun i hi hh => by omega))⟩
        case measure => first | (simp [intOf]; done) | (simp [intOf]; omega)
    · obtain rfl : j = 24 := by omega
      have hzz := hu.out.size
      obtain ⟨Aq, cq, rfl, -⟩ := ho.out.ints.shape
      go_wp2
      go_loopw [5, 7] (fun q i wy => ∃ (j : Nat), j ≤ 24 ∧ i = .int .i64 j ∧ q = .bool true ∧ Hid (Up wr wy)) (fun _ i _ => 24 - (intOf i).toNat)
      case atStart => exact ⟨0, by omega, rfl, rfl, Lib.hid (Chg.refl _ _)⟩
      case round =>
        obtain ⟨j, hj, rfl, rfl, hy⟩ := hrel
        have b3 := hy.out.cell (hu.out.cell B3.out id) id
        by_cases hlt : j < 24
        · obtain ⟨A, n, hc⟩ := HK.out j hlt
          have hcj := hy.out.cell (hu.out.cell (U1.out.cell hc id) id) id
          clear hc
          go_wp2
          go_roundw
          case rel => exact ⟨j + 1, by omega, by go_num, rfl, hy⟩
          case measure => first | (simp [intOf]; done) | (simp [intOf]; omega)
        · obtain rfl : j = 24 := by omega
          have e24 := HFL.out
          go_wp2
          go_ret2
          exact ⟨_, rfl, by have h9 := (ho.out.up hy.out).ints; rw [e24]; exact h9.mono (fun b hb h => ⟨by have h8 := h.1; have h7 := HZ1.out; omega, h.2⟩), Chg.trans U1.out (Chg.trans hu.out hy.out)⟩
theorem MachV.frAt {w : World} {S : Nat → Prop} {K : Nat} {m : MachM} {F B C L D : Value} {fs bs : List Value} (h : MachV w S K m F B C L D fs bs) (h0 : 0 < m.fr.length) : ∃ g c, F = .slice (some ⟨g, 0, none⟩) m.fr.length c ∧ ∀ i, i < m.fr.length → ∃ A k, w.cell? ⟨g, i, none⟩ = some (.slice A (m.fr.getD i []).length k) := by
  have hl := h.fl
  obtain ⟨g, c, hF, -, -, -, hc⟩ := ownsRow_some h.f (by omega)
  refine ⟨g, c, by rw [hF, hl], fun i hi => ?_⟩
  obtain ⟨A, k, hv, -⟩ := (h.fi i (by omega)).ints.shape
  exact ⟨A, k, by rw [← hv]; exact (hc i (by omega)).1⟩
theorem MachV.bkAt {w : World} {S : Nat → Prop} {K : Nat} {m : MachM} {F B C L D : Value} {fs bs : List Value} (h : MachV w S K m F B C L D fs bs) (h0 : 0 < m.bk.length) : ∃ g c, B = .slice (some ⟨g, 0, none⟩) m.bk.length c ∧ ∀ i, i < m.bk.length → ∃ A k, w.cell? ⟨g, i, none⟩ = some (.slice A (m.bk.getD i []).length k) := by
  have hl := h.bl
  obtain ⟨g, c, hF, -, -, -, hc⟩ := ownsRow_some h.b (by omega)
  refine ⟨g, c, by rw [hF, hl], fun i hi => ?_⟩
  obtain ⟨A, k, hv, -⟩ := (h.bi i (by omega)).ints.shape
  exact ⟨A, k, by rw [← hv]; exact (hc i (by omega)).1⟩
theorem d8Full_any (w : World) {S : Nat → Prop} {K : Nat} {m : MachM} {F B C L D : Value} {fs bs : List Value} (h : MachV w S K m F B C L D fs bs) {now : List Int} {n : Nat} (hc : ColS m now n) :
    Calls Try.prog 11 #[machVal m F B C L D] w fun e w' => ∃ v, e = .returned (.tuple #[v, .bool true]) ∧ Ints w' (New w.heap.size w'.heap.size) v (fullTo m.fr m.fr.length) ∧ Up w w' := by
  obtain ⟨h1, h2⟩ := hc.fl
  obtain ⟨gf, cf, rfl, hf⟩ := h.frAt (by omega)
  obtain ⟨gb, cb, rfl, hb⟩ := h.bkAt (by omega)
  unfold machVal
  rw [hc.rk]
  rw [h1] at hf ⊢
  rw [h2] at hb ⊢
  have := d8Full_raw w m.wd gf cf gb cb m.fr C L D (by rw [hc.fl.1]) hf (fun i hi => by obtain ⟨A, k, h9⟩ := hb i hi; rw [hc.bk i hi] at h9; exact ⟨A, k, h9⟩)
  rw [hc.fl.1] at this
  exact this
end Go.Proofs.Ytplabnjdhkmmkaa
end
section
set_option maxRecDepth 100000
set_option maxHeartbeats 4000000
set_option linter.unusedSimpArgs false
set_option linter.unusedVariables false
namespace Go.Proofs.Ytplabnjdhkmmkaa
open Go.ChangeShapes Go.WideShapes Go.ChangeAt Go.RowKit
theorem placesB_len {tw : Bool} {xs : List Int} (h : placesB tw xs = true) : xs.length ≤ 8 ∧ ∀ i (hi : i < xs.length), 0 ≤ xs[i] ∧ xs[i] ≤ 23 := by
  obtain ⟨h1, h2⟩ := of_decide_eq_true h
  exact ⟨h2, fun i hi => ⟨(h1 i hi hi).1, (h1 i hi hi).2.1⟩⟩
def plcCode (xs : List Int) (c : Int) : Int := if placesB false xs = true ∧ (1 ≤ c ∧ c ≤ 4) then 0 else 1
def plcOut (xs : List Int) (c : Int) : List OpM := if placesB false xs = true ∧ (1 ≤ c ∧ c ≤ 4) then knitM xs c else []
theorem PlaceColumns_any (w : World) (S : Nat → Prop) (v : Value) (xs : List Int) (h : Ints w S v xs) (c : Int) :
    Calls Try.prog 6 #[v, .int .i64 c] w fun e w' => ∃ v, e = .returned (.tuple #[v, .int .i64 (plcCode xs c)]) ∧ Ops w' (New w.heap.size w'.heap.size) v (plcOut xs c) ∧ Up w w' := by
  have H := Lib.hid h
  obtain ⟨A, cap, rfl, hlc, hcm, hI, hr, hnn⟩ := h
  have HR := Lib.hid hr
  clear hI hr hnn
  by_cases hb : placesB false xs = true
  · by_cases hc : 1 ≤ c ∧ c ≤ 4
    · rw [show plcCode xs c = 0 from if_pos ⟨hb, hc⟩, show plcOut xs c = knitM xs c from if_pos ⟨hb, hc⟩]
      have HB := Lib.hid (placesB_len hb)
      have HT := Lib.hid hb
      clear hb
      go_enter Try.func6, Try.ntmps6
      go_wp2_with fail
      refine (ValidPlaces_any _ S _ xs H.out).mono ?_
      rintro e w1 ⟨rfl, rfl⟩
      rw [HT.out]
      go_wp2_with (first | (go_at_call 29; refine (isCarrier_yes _ _ ?_).mono ?_; (omega); rintro e w' ⟨rfl, rfl⟩))
      go_loopw [6, 8, 22] (fun v _ i wr => ∃ j : Nat, j ≤ xs.length ∧ i = .int .i64 j ∧ Hid (OwnO wr w.heap.size v (knitTo xs c j)) ∧ Hid (Up w wr)) (fun _ _ i _ => xs.length - (intOf i).toNat)
      case atStart =>
        exact ⟨0, by omega, rfl, OwnO.lit (xs := knitTo xs c 0) (heap_new_at rfl) (by simp [knitTo, OpM.cells]) (by first | omega | (simp; omega)) (by simp [knitTo]) (by
          intro x hx
          simp only [knitTo, List.take_zero, List.map_nil, List.mem_singleton] at hx
          subst hx
          unfold OpM.ok I64
          simp only []
          omega), (Chg.refl _ _).alloc _⟩
      case round =>
        obtain ⟨j, hj, rfl, ho, hg⟩ := hrel
        by_cases hlt : j < xs.length
        · have hsz := hg.out.size
          obtain ⟨b, o, rfl, -, hbl, hcell⟩ := HR.out (by omega)
          have hcj := hg.out.cell (hcell j hlt).1 id
          have hx := HB.out.2 j hlt
          have HL := Lib.hid (show (knitTo xs c j).length ≤ 1099511627775 by rw [knitTo_length _ _ _ hj]; have := HB.out.1; omega)
          have HY := Lib.hid (show (knit1 c xs[j]).ok by unfold OpM.ok I64 knit1; simp only []; omega)
          clear hcell hx
          go_wp2_with (first | (at_builtin; refine wp_append_op rfl _ _ rfl w.heap.size _ (knitTo xs c j) rfl (ho.out.alloc _) wr.heap.size (knit1 c xs[j]) rfl (heap_new_at rfl) HY.out HL.out ?_ ?_; (simp; omega); intro v' w3 ho1 _ hg1; have HO := Lib.hid ho1; have HG := Lib.hid hg1; clear ho1 hg1))
          go_roundw
          case rel => exact ⟨j + 1, by omega, by go_num, by rw [knitTo_succ _ _ _ hlt]; exact HO.out, Chg.new (hg.out.alloc _) HG.out (fun i hi => by omega)⟩
          case measure => simp [intOf]; omega
        · obtain rfl : j = xs.length := by omega
          go_wp2
          go_ret2
          exact ⟨_, rfl, by rw [← knitTo_all]; exact ho.out.ops, hg.out⟩
    · rw [show plcCode xs c = 1 from if_neg (fun h => hc h.2), show plcOut xs c = [] from if_neg (fun h => hc h.2)]
      have hc' : c < 1 ∨ 4 < c := by omega
      have HT := Lib.hid hb
      clear hb hc
      go_enter Try.func6, Try.ntmps6
      go_wp2_with fail
      refine (ValidPlaces_any _ S _ xs H.out).mono ?_
      rintro e w1 ⟨rfl, rfl⟩
      rw [HT.out]
      go_wp2_with (first | (go_at_call 29; refine (isCarrier_no _ _ ?_).mono ?_; (omega); rintro e w' ⟨rfl, rfl⟩))
      go_ret2
      exact ⟨_, rfl, Ops.nil _ _ _ _ (by omega), Chg.refl _ _⟩
  · rw [show plcCode xs c = 1 from if_neg (fun h => hb h.1), show plcOut xs c = [] from if_neg (fun h => hb h.1)]
    have HT := Lib.hid (Bool.eq_false_iff.2 hb)
    clear hb
    go_enter Try.func6, Try.ntmps6
    go_wp2_with fail
    refine (ValidPlaces_any _ S _ xs H.out).mono ?_
    rintro e w1 ⟨rfl, rfl⟩
    rw [HT.out]
    go_wp2
    go_ret2
    exact ⟨_, rfl, Ops.nil _ _ _ _ (by omega), Chg.refl _ _⟩
end Go.Proofs.Ytplabnjdhkmmkaa
end
section
set_option maxRecDepth 100000
set_option maxHeartbeats 4000000
set_option linter.unusedSimpArgs false
set_option linter.unusedVariables false
namespace Go.Proofs.Ytplabnjdhkmmkaa
open Go.ChangeShapes Go.WideShapes Go.ChangeAt Go.RowKit
theorem MoveColumns_any (w : World) (S : Nat → Prop) (v : Value) (xs : List Int) (h : Ints w S v xs) (T : Nat → Prop) (u : Value) (ys : List Int) (h2 : Ints w T u ys) :
    Calls Try.prog 7 #[v, u] w fun e w' => ∃ v', e = .returned (.tuple #[v', .int .i64 (planCode xs ys)]) ∧ Ops w' (New w.heap.size w'.heap.size) v' (colsOut xs ys) ∧ Up w w' := by
  obtain ⟨A, c, rfl, hlc, hcm, -⟩ := h.shape
  obtain ⟨A2, c2, rfl, hlc2, hcm2, -⟩ := h2.shape
  have H := Lib.hid h
  have H2 := Lib.hid h2
  clear h h2
  go_enter Try.func7, Try.ntmps7
  go_wp2_with fail
  refine (moveColumns_any _ S T _ _ xs ys H.out H2.out).mono ?_
  rintro e w1 ⟨v1, rfl, k1, g1⟩
  have K1 := Lib.hid k1
  have G1 := Lib.hid g1
  clear k1 g1
  go_wp2
  go_ret2
  exact ⟨_, rfl, K1.out, G1.out⟩
end Go.Proofs.Ytplabnjdhkmmkaa
end
section
set_option maxRecDepth 100000
set_option maxHeartbeats 4000000
set_option linter.unusedSimpArgs false
set_option linter.unusedVariables false
namespace Go.Proofs.Ytplabnjdhkmmkaa
open Go.ChangeShapes Go.WideShapes Go.ChangeAt Go.RowKit
def absMv (x : Int) : Int := if x < 0 then -x else x
theorem absMv_in {x : Int} (h : -3 ≤ x ∧ x ≤ 3) : 0 ≤ absMv x ∧ absMv x ≤ 3 := by unfold absMv; split <;> omega
theorem sizeMv_any (w : World) (x : Int) (h : -1000 ≤ x ∧ x ≤ 1000) :
    Calls Try.prog 41 #[.int .i64 x] w fun e w' => e = .returned (.int .i64 (absMv x)) ∧ w = w' := by
  by_cases hx : x < 0
  · have e1 : absMv x = -x := if_pos hx
    rw [e1]
    go_enter Try.func41, Try.ntmps41
    go_wp2
    go_ret
    exact ⟨by first | rfl | (simp; omega), rfl⟩
  · have e1 : absMv x = x := if_neg hx
    rw [e1]
    go_enter Try.func41, Try.ntmps41
    go_wp2
    go_ret
    exact ⟨by first | rfl | (simp; omega), rfl⟩
def lenMv (ms : List MoveM) : Int := (ms.map fun m => absMv (m.to - m.fr)).sum
theorem lenMv_take {ms : List MoveM} {j : Nat} (h : j < ms.length) : lenMv (ms.take (j + 1)) = lenMv (ms.take j) + absMv (ms[j].to - ms[j].fr) := by
  unfold lenMv
  rw [List.take_succ_eq_append_getElem h, List.map_append, List.sum_append]
  simp only [List.map_cons, List.map_nil, List.sum_cons, List.sum_nil, Int.add_zero]
def allMv (ms : List MoveM) (j : Nat) : Prop := ∀ i (h : i < ms.length), i < j → isMoveP ms[i].fr ms[i].to
instance (ms : List MoveM) (j : Nat) : Decidable (allMv ms j) := inferInstanceAs (Decidable (∀ i (_ : i < ms.length), _))
theorem allMv_succ {ms : List MoveM} {j : Nat} (h : allMv ms j) (hl : j < ms.length) (hn : isMoveP ms[j].fr ms[j].to) : allMv ms (j + 1) := fun i hi hj => by
  by_cases e : i = j
  · subst e; exact hn
  · exact h i hi (by omega)
def lengthMv (ms : List MoveM) : Int := if allMv ms ms.length then lenMv ms else -1
theorem ret_mv {a b : Int} (h : a = b) : Ending.returned (.int .i64 a) = .returned (.int .i64 b) := by rw [h]
theorem MoveLength_any (w : World) (S : Nat → Prop) (v : Value) (ms : List MoveM) (h : Moves w S v ms) (hb : ms.length ≤ 1048576) :
    Calls Try.prog 14 #[v] w fun e w' => e = .returned (.int .i64 (lengthMv ms)) ∧ Up w w' := by
  obtain ⟨A, c, rfl, hlc, hcm, -⟩ := h.shape
  have H := Lib.hid h
  clear h
  go_enter Try.func14, Try.ntmps14
  go_wp2
  go_loopw [3, 5, 8] (fun s _ i wr => ∃ (j : Nat) (n : Int), j ≤ ms.length ∧ i = .int .i64 j ∧ s = .int .i64 n ∧ 0 ≤ n ∧ n ≤ 3 * j ∧ Hid (n = lenMv (ms.take j)) ∧ Hid (allMv ms j) ∧ Hid (Up w wr)) (fun _ _ i _ => ms.length - (intOf i).toNat)
  case atStart => exact ⟨0, 0, by omega, rfl, rfl, by omega, by omega, rfl, fun i _ h => absurd h (by omega), Chg.refl _ _⟩
  case round =>
    obtain ⟨j, n, hj, rfl, rfl, hn0, hn1, hs, ha, hg⟩ := hrel
    by_cases hlt : j < ms.length
    · obtain ⟨b, o, c', he, -, hbl, hc⟩ := (H.out.up hg.out).at_ hlt
      obtain ⟨rfl, rfl⟩ : A = some ⟨b, o, none⟩ ∧ c = c' := by simpa using he
      have f0 := (hc 0 _ rfl).1
      have f1 := (hc 1 _ rfl).1
      rw [Nat.add_zero] at f0
      clear hc he
      by_cases hm : isMoveP ms[j].fr ms[j].to
      · have HT := Lib.hid (decide_eq_true hm)
        have hd : -3 ≤ ms[j].to - ms[j].fr ∧ ms[j].to - ms[j].fr ≤ 3 := hm.2.2.2
        have hab := absMv_in hd
        have HA := Lib.hid (allMv_succ ha.out hlt hm)
        have HS := Lib.hid (show n + absMv (ms[j].to - ms[j].fr) = lenMv (ms.take (j + 1)) by rw [lenMv_take hlt, hs.out])
        have hr1 : -1000 ≤ ms[j].to - ms[j].fr ∧ ms[j].to - ms[j].fr ≤ 1000 := by omega
        have hf1 : (0 ≤ ms[j].fr ∧ ms[j].fr ≤ 23) := hm.1
        have ht1 : (0 ≤ ms[j].to ∧ ms[j].to ≤ 23) := hm.2.1
        clear hm ha hs
        go_wp2_with fail
        refine (isMove_any _ ms[j].fr ms[j].to).mono ?_
        rintro e w1 ⟨rfl, g1⟩
        rw [HT.out]
        have q0 := Chg.cell g1 (cell_new wr _ _ 0) id
        have q1 := Chg.cell g1 (cell_new wr _ _ 1) id
        have G1 := Lib.hid (Chg.trans (hg.out.alloc _) g1)
        clear g1 hg f0 f1
        go_wp2_with (first | (go_at_call 41; refine (sizeMv_any _ _ hr1).mono ?_; rintro e w' ⟨rfl, rfl⟩))
        go_roundw
        case rel => exact ⟨j + 1, _, by omega, by go_num, rfl, by omega, by omega, HS, HA, G1.out⟩
        case measure => first | (simp [intOf]; done) | (simp [intOf]; omega)
      · have HL := Lib.hid (show lengthMv ms = -1 from if_neg (fun hh => hm (hh j hlt hlt)))
        have HT := Lib.hid (decide_eq_false hm)
        clear hm ha hs
        go_wp2_with fail
        refine (isMove_any _ ms[j].fr ms[j].to).mono ?_
        rintro e w1 ⟨rfl, g1⟩
        rw [HT.out]
        go_wp2
        go_ret
        exact ⟨ret_mv HL.out.symm, Chg.trans (hg.out.alloc _) g1⟩
    · obtain rfl : j = ms.length := by omega
      go_wp2
      go_ret
      exact ⟨ret_mv (by unfold lengthMv; rw [if_pos ha.out, hs.out, List.take_length]), hg.out⟩
end Go.Proofs.Ytplabnjdhkmmkaa
end
section
set_option maxRecDepth 100000
set_option maxHeartbeats 4000000
set_option linter.unusedSimpArgs false
set_option linter.unusedVariables false
namespace Go.Proofs.Ytplabnjdhkmmkaa
open Go.ChangeShapes Go.WideShapes Go.ChangeAt Go.RowKit
theorem OwnI.some_ {w : World} {base : Nat} {v : Value} {xs : List Int} (h : OwnI w base v xs) (hp : 0 < xs.length) : ∃ g c, v = .slice (some ⟨g, 0, none⟩) xs.length c := by
  rcases h.1.2 with ⟨_, h0⟩ | ⟨g, cap, cur, hv, _⟩
  · omega
  · exact ⟨g, cap, hv⟩
theorem ApplyMove_any (w : World) (S : Nat → Prop) (v : Value) (xs : List Int) (f t : Int) (h : Ints w S v xs) :
    Calls Try.prog 12 #[v, .agg #[.int .i64 f, .int .i64 t]] w fun e w' => ∃ v', e = .returned (.tuple #[v', .int .i64 (appCode xs f t)]) ∧ Ints w' (New w.heap.size w'.heap.size) v' (appOut xs f t) ∧ Up w w' := by
  obtain ⟨A, c, rfl, hlc, hcm, -⟩ := h.shape
  have H := Lib.hid h
  clear h
  have U0 := Lib.hid (Chg.refl Nowhere w)
  cases hp : placesB false xs with
  | false =>
    have HP := Lib.hid hp
    have HE := Lib.hid (appCode_a (f := f) (t := t) hp)
    have HO := Lib.hid (appOut_no HE.out (by omega))
    clear hp
    have U_1 := Lib.hid (Chg.trans U0.out ((Chg.refl Nowhere w).alloc (.cells #[.int .i64 f, .int .i64 t] 48)))
    clear U0
    have J_2 := Lib.hid (H.out.up ((Chg.refl Nowhere w).alloc (.cells #[.int .i64 f, .int .i64 t] 48)))
    clear H
    have q0_3 := (show (w.alloc (.cells #[.int .i64 f, .int .i64 t] 48)).cell? ⟨w.heap.size, 0, none⟩ = some (.int .i64 f) from cell_new _ _ _ _)
    have q1_4 := (show (w.alloc (.cells #[.int .i64 f, .int .i64 t] 48)).cell? ⟨w.heap.size, 1, none⟩ = some (.int .i64 t) from cell_new _ _ _ _)
    have hbx5 : w.heap.size < (w.alloc (.cells #[.int .i64 f, .int .i64 t] 48)).heap.size := by simp
    go_enter Try.func12, Try.ntmps12
    go_wp2_with fail
    refine (ValidPlaces_any _ S _ xs (J_2.out.up (by repeat (first | exact Chg.refl _ _ | apply Chg.drew | apply Chg.drewN | refine Chg.alloc ?_ _)))).mono ?_
    rintro e w' ⟨rfl, rfl⟩
    rw [HP.out]
    go_wp2
    go_ret2
    exact ⟨_, ret_mi HE.out.symm, by rw [HO.out]; exact Ints.nil _ _ _ _ (by omega), (Chg.trans U_1.out (by repeat (first | exact Chg.refl _ _ | apply Chg.drew | apply Chg.drewN | refine Chg.alloc ?_ _)))⟩
  | true =>
    have HP := Lib.hid hp
    by_cases hm : isMoveP f t
    rotate_left
    · have HT := Lib.hid (decide_eq_false hm)
      have HE := Lib.hid (appCode_b hp hm)
      have HO := Lib.hid (appOut_no HE.out (by omega))
      clear hp hm
      have U_7 := Lib.hid (Chg.trans U0.out ((Chg.refl Nowhere w).alloc (.cells #[.int .i64 f, .int .i64 t] 48)))
      clear U0
      have J_8 := Lib.hid (H.out.up ((Chg.refl Nowhere w).alloc (.cells #[.int .i64 f, .int .i64 t] 48)))
      clear H
      have q0_9 := (show (w.alloc (.cells #[.int .i64 f, .int .i64 t] 48)).cell? ⟨w.heap.size, 0, none⟩ = some (.int .i64 f) from cell_new _ _ _ _)
      have q1_10 := (show (w.alloc (.cells #[.int .i64 f, .int .i64 t] 48)).cell? ⟨w.heap.size, 1, none⟩ = some (.int .i64 t) from cell_new _ _ _ _)
      have hbx11 : w.heap.size < (w.alloc (.cells #[.int .i64 f, .int .i64 t] 48)).heap.size := by simp
      go_enter Try.func12, Try.ntmps12
      go_wp2_with fail
      refine (ValidPlaces_any _ S _ xs (J_8.out.up (by repeat (first | exact Chg.refl _ _ | apply Chg.drew | apply Chg.drewN | refine Chg.alloc ?_ _)))).mono ?_
      rintro e w' ⟨rfl, rfl⟩
      rw [HP.out]
      go_wp2_with fail
      refine (isMove_any _ f t).mono ?_
      rintro e w13 ⟨rfl, g1⟩
      have G1 := Lib.hid g1
      have hz13 := G1.out.size
      clear g1
      have U_14 := Lib.hid (Chg.trans U_7.out (Chg.trans (by repeat (first | exact Chg.refl _ _ | apply Chg.drew | apply Chg.drewN | refine Chg.alloc ?_ _)) G1.out))
      clear U_7
      have J_15 := Lib.hid (J_8.out.up (Chg.trans (by repeat (first | exact Chg.refl _ _ | apply Chg.drew | apply Chg.drewN | refine Chg.alloc ?_ _)) G1.out))
      clear J_8
      have q0_16 := Chg.cell (Chg.trans (by repeat (first | exact Chg.refl _ _ | apply Chg.drew | apply Chg.drewN | refine Chg.alloc ?_ _)) G1.out) q0_9 id
      clear q0_9
      have q1_17 := Chg.cell (Chg.trans (by repeat (first | exact Chg.refl _ _ | apply Chg.drew | apply Chg.drewN | refine Chg.alloc ?_ _)) G1.out) q1_10 id
      clear q1_10
      clear G1
      rw [HT.out]
      go_wp2
      go_ret2
      exact ⟨_, ret_mi HE.out.symm, by rw [HO.out]; exact Ints.nil _ _ _ _ (by omega), (Chg.trans U_14.out (by repeat (first | exact Chg.refl _ _ | apply Chg.drew | apply Chg.drewN | refine Chg.alloc ?_ _)))⟩
    have HT := Lib.hid (decide_eq_true hm)
    by_cases hs : f ∈ xs
    rotate_left
    · have HS := Lib.hid (decide_eq_false hs)
      have HE := Lib.hid (appCode_c hp hm hs)
      have HO := Lib.hid (appOut_no HE.out (by omega))
      clear hp hm hs
      have U_18 := Lib.hid (Chg.trans U0.out ((Chg.refl Nowhere w).alloc (.cells #[.int .i64 f, .int .i64 t] 48)))
      clear U0
      have J_19 := Lib.hid (H.out.up ((Chg.refl Nowhere w).alloc (.cells #[.int .i64 f, .int .i64 t] 48)))
      clear H
      have q0_20 := (show (w.alloc (.cells #[.int .i64 f, .int .i64 t] 48)).cell? ⟨w.heap.size, 0, none⟩ = some (.int .i64 f) from cell_new _ _ _ _)
      have q1_21 := (show (w.alloc (.cells #[.int .i64 f, .int .i64 t] 48)).cell? ⟨w.heap.size, 1, none⟩ = some (.int .i64 t) from cell_new _ _ _ _)
      have hbx22 : w.heap.size < (w.alloc (.cells #[.int .i64 f, .int .i64 t] 48)).heap.size := by simp
      go_enter Try.func12, Try.ntmps12
      go_wp2_with fail
      refine (ValidPlaces_any _ S _ xs (J_19.out.up (by repeat (first | exact Chg.refl _ _ | apply Chg.drew | apply Chg.drewN | refine Chg.alloc ?_ _)))).mono ?_
      rintro e w' ⟨rfl, rfl⟩
      rw [HP.out]
      go_wp2_with fail
      refine (isMove_any _ f t).mono ?_
      rintro e w24 ⟨rfl, g1⟩
      have G1 := Lib.hid g1
      have hz24 := G1.out.size
      clear g1
      have U_25 := Lib.hid (Chg.trans U_18.out (Chg.trans (by repeat (first | exact Chg.refl _ _ | apply Chg.drew | apply Chg.drewN | refine Chg.alloc ?_ _)) G1.out))
      clear U_18
      have J_26 := Lib.hid (J_19.out.up (Chg.trans (by repeat (first | exact Chg.refl _ _ | apply Chg.drew | apply Chg.drewN | refine Chg.alloc ?_ _)) G1.out))
      clear J_19
      have q0_27 := Chg.cell (Chg.trans (by repeat (first | exact Chg.refl _ _ | apply Chg.drew | apply Chg.drewN | refine Chg.alloc ?_ _)) G1.out) q0_20 id
      clear q0_20
      have q1_28 := Chg.cell (Chg.trans (by repeat (first | exact Chg.refl _ _ | apply Chg.drew | apply Chg.drewN | refine Chg.alloc ?_ _)) G1.out) q1_21 id
      clear q1_21
      clear G1
      rw [HT.out]
      go_wp2_with fail
      refine (contains_any _ S _ xs f (J_26.out.up (by repeat (first | exact Chg.refl _ _ | apply Chg.drew | apply Chg.drewN | refine Chg.alloc ?_ _)))).mono ?_
      rintro e w' ⟨rfl, rfl⟩
      rw [HS.out]
      go_wp2
      go_ret2
      exact ⟨_, ret_mi HE.out.symm, by rw [HO.out]; exact Ints.nil _ _ _ _ (by omega), (Chg.trans U_25.out (by repeat (first | exact Chg.refl _ _ | apply Chg.drew | apply Chg.drewN | refine Chg.alloc ?_ _)))⟩
    have HS := Lib.hid (decide_eq_true hs)
    have HM := Lib.hid hm
    have HF := Lib.hid hs
    have HPB := Lib.hid (places_bd hp)
    have hl8 := HPB.out.1
    obtain ⟨hf, ht, hft, hd⟩ := hm
    have HFT := Lib.hid hft
    clear hp hs hft
    have U_30 := Lib.hid (Chg.trans U0.out ((Chg.refl Nowhere w).alloc (.cells #[.int .i64 f, .int .i64 t] 48)))
    clear U0
    have J_31 := Lib.hid (H.out.up ((Chg.refl Nowhere w).alloc (.cells #[.int .i64 f, .int .i64 t] 48)))
    clear H
    have q0_32 := (show (w.alloc (.cells #[.int .i64 f, .int .i64 t] 48)).cell? ⟨w.heap.size, 0, none⟩ = some (.int .i64 f) from cell_new _ _ _ _)
    have q1_33 := (show (w.alloc (.cells #[.int .i64 f, .int .i64 t] 48)).cell? ⟨w.heap.size, 1, none⟩ = some (.int .i64 t) from cell_new _ _ _ _)
    have hbx34 : w.heap.size < (w.alloc (.cells #[.int .i64 f, .int .i64 t] 48)).heap.size := by simp
    go_enter Try.func12, Try.ntmps12
    go_wp2_with fail
    refine (ValidPlaces_any _ S _ xs (J_31.out.up (by repeat (first | exact Chg.refl _ _ | apply Chg.drew | apply Chg.drewN | refine Chg.alloc ?_ _)))).mono ?_
    rintro e w' ⟨rfl, rfl⟩
    rw [HP.out]
    go_wp2_with fail
    refine (isMove_any _ f t).mono ?_
    rintro e w36 ⟨rfl, g1⟩
    have G1 := Lib.hid g1
    have hz36 := G1.out.size
    clear g1
    have U_37 := Lib.hid (Chg.trans U_30.out (Chg.trans (by repeat (first | exact Chg.refl _ _ | apply Chg.drew | apply Chg.drewN | refine Chg.alloc ?_ _)) G1.out))
    clear U_30
    have J_38 := Lib.hid (J_31.out.up (Chg.trans (by repeat (first | exact Chg.refl _ _ | apply Chg.drew | apply Chg.drewN | refine Chg.alloc ?_ _)) G1.out))
    clear J_31
    have q0_39 := Chg.cell (Chg.trans (by repeat (first | exact Chg.refl _ _ | apply Chg.drew | apply Chg.drewN | refine Chg.alloc ?_ _)) G1.out) q0_32 id
    clear q0_32
    have q1_40 := Chg.cell (Chg.trans (by repeat (first | exact Chg.refl _ _ | apply Chg.drew | apply Chg.drewN | refine Chg.alloc ?_ _)) G1.out) q1_33 id
    clear q1_33
    clear G1
    rw [HT.out]
    go_wp2_with fail
    refine (contains_any _ S _ xs f (J_38.out.up (by repeat (first | exact Chg.refl _ _ | apply Chg.drew | apply Chg.drewN | refine Chg.alloc ?_ _)))).mono ?_
    rintro e w' ⟨rfl, rfl⟩
    rw [HS.out]
    have M0 := Lib.hid (OwnI.made w36 w36.heap.size (Nat.le_refl _))
    have hII : I64 t := by unfold I64; omega
    go_wp2
    go_loopw [6, 25] (fun v i wr => ∃ j : Nat, j ≤ xs.length ∧ i = .int .i64 j ∧ Hid (OwnI wr w36.heap.size v (mvL (xs.take j) f t)) ∧ Hid (Up w36 wr) ∧ Hid ((xs.take j).any (betB f t) = false) ∧ Hid (∃ g c, v = .slice (some ⟨g, 0, none⟩) (mvL (xs.take j) f t).length c)) (fun _ i _ => xs.length - (intOf i).toNat)
    case atStart => exact ⟨0, by omega, rfl, M0.out, (Chg.refl _ _).alloc _, by simp [Hid], ⟨_, _, rfl⟩⟩
    case round =>
      obtain ⟨j, hj, rfl, ho, hg, hno, hsh⟩ := hrel
      by_cases hlt : j < xs.length
      · obtain ⟨b1, o1, rfl, -, hc⟩ := J_38.out.ix hlt
        have f1 := Chg.cell hg.out (hc j hlt) id
        rw [ix_eq hlt] at f1
        clear hc
        have hgz := hg.out.size
        have g0 := Chg.cell hg.out q0_39 id
        have g1 := Chg.cell hg.out q1_40 id
        obtain ⟨x, hx⟩ : ∃ x, xs[j] = x := ⟨_, rfl⟩
        rw [hx] at f1
        have hx1 := HPB.out.2 x (hx ▸ List.getElem_mem hlt)
        have HX := Lib.hid hx
        clear hx
        have hbw : w.heap.size < wr.heap.size := by omega
        by_cases hb : betB f t x = true
        · have HE := Lib.hid (appCode_d HP.out HM.out HF.out (any_bet hlt (HX.out ▸ hb)))
          have HO := Lib.hid (appOut_no HE.out (by omega))
          have hbb := of_decide_eq_true hb
          have hxf : (x == f) = false := by simp; omega
          clear hb
          rcases hbb with ⟨h1, h2⟩ | ⟨h1, h2⟩
          · skip
            have d1 : decide (f < x) = true := decide_eq_true (by omega)
            have d2 : decide (x ≤ t) = true := decide_eq_true (by omega)
            have d3 : decide (t < x) = false := decide_eq_false (by omega)
            have d4 : decide (x < f) = false := decide_eq_false (by omega)
            go_wp2
            try (go_quiet (fail); go_wp2)
            go_ret2
            exact ⟨_, ret_mi HE.out.symm, by rw [HO.out]; exact Ints.nil _ _ _ _ (by omega), Chg.trans (Chg.trans U_37.out (by repeat (first | exact Chg.refl _ _ | apply Chg.drew | apply Chg.drewN | refine Chg.alloc ?_ _))) (Chg.trans hg.out (by repeat (first | exact Chg.refl _ _ | apply Chg.drew | apply Chg.drewN | refine Chg.alloc ?_ _)))⟩
          · skip
            have d1 : decide (f < x) = false := decide_eq_false (by omega)
            have d2 : decide (x ≤ t) = false := decide_eq_false (by omega)
            have d3 : decide (t < x) = true := decide_eq_true (by omega)
            have d4 : decide (x < f) = true := decide_eq_true (by omega)
            go_wp2
            try (go_quiet (fail); go_wp2)
            go_ret2
            exact ⟨_, ret_mi HE.out.symm, by rw [HO.out]; exact Ints.nil _ _ _ _ (by omega), Chg.trans (Chg.trans U_37.out (by repeat (first | exact Chg.refl _ _ | apply Chg.drew | apply Chg.drewN | refine Chg.alloc ?_ _))) (Chg.trans hg.out (by repeat (first | exact Chg.refl _ _ | apply Chg.drew | apply Chg.drewN | refine Chg.alloc ?_ _)))⟩
        have hb' : betB f t x = false := by simpa using hb
        have HB := Lib.hid hb'
        have hbb : ¬ ((f < x ∧ x ≤ t) ∨ (t < x ∧ x < f)) := of_decide_eq_false hb'
        clear hb hb'
        obtain ⟨y, hy⟩ : ∃ y, mvTo f t x = y := ⟨_, rfl⟩
        have HY := Lib.hid hy
        have hyb : -100 ≤ y ∧ y ≤ 100 := by rw [← hy]; unfold mvTo; split <;> omega
        have hcase : (f = x ∧ t = y) ∨ (x ≠ f ∧ y = x) := by rw [← hy]; unfold mvTo; by_cases h : x = f; exact .inl ⟨h.symm, (if_pos h).symm⟩; exact .inr ⟨h, if_neg h⟩
        clear hy
        have HYI := Lib.hid (show I64 y by unfold I64; omega)
        have HL := Lib.hid (show (mvL (xs.take j) f t).length ≤ 1099511627776 by rw [mvL_length, List.length_take]; omega)
        have HT1 := Lib.hid (show mvL (xs.take (j + 1)) f t = mvL (xs.take j) f t ++ [y] by unfold mvL; rw [List.take_succ_eq_append_getElem hlt, List.map_append, List.map_singleton, HX.out, HY.out])
        rcases hcase with ⟨rfl, rfl⟩ | ⟨hne, rfl⟩
        · skip
          have e1 : (f == f) = true := by simp
          have d1 : decide (f < f) = false := decide_eq_false (by omega)
          rcases (show t < f ∨ f < t by have := HFT.out; omega) with hd1 | hd1
          all_goals
            first | (have d3 : decide (t < f) = true := decide_eq_true (by omega)) | (have d3 : decide (t < f) = false := decide_eq_false (by omega))
            go_wp2_with (first | (at_builtin; refine wp_append_int rfl _ _ rfl w36.heap.size _ (mvL (xs.take j) f t) rfl (ho.out.alloc _) _ (t) rfl (cell_new _ _ _ _) HYI.out HL.out ?_ ?_; (simp; omega); intro v7 w7 ho1 _ hg1; have HO1 := Lib.hid ho1; have HG1 := Lib.hid (Chg.new (hg.out.alloc _) hg1 (fun i hi => by omega)); clear ho1 hg1))
            go_roundw
            case rel => exact ⟨j + 1, by omega, by go_num, by rw [HT1.out]; exact HO1.out, HG1.out, any_bet_take hlt hno.out (by rw [HX.out]; exact HB.out), by rw [HT1.out]; exact OwnI.some_ HO1.out (by simp)⟩
            case measure => first | (simp [intOf]; done) | (simp [intOf]; omega)
        · skip
          have e1 : (y == f) = false := by simpa using hne
          have HNE := Lib.hid hne
          have d0 : (f < y ∧ t < y) ∨ (y < f ∧ y ≤ t) := by have := HFT.out; omega
          clear hne
          rcases d0 with ⟨h1, h2⟩ | ⟨h1, h2⟩
          · skip
            have d1 : decide (f < y) = true := decide_eq_true h1
            have d2 : decide (y ≤ t) = false := decide_eq_false (by omega)
            have d3 : decide (t < y) = true := decide_eq_true h2
            have d4 : decide (y < f) = false := decide_eq_false (by omega)
            go_wp2_with (first | (at_builtin; refine wp_append_int rfl _ _ rfl w36.heap.size _ (mvL (xs.take j) f t) rfl (ho.out.alloc _) _ (y) rfl (cell_new _ _ _ _) HYI.out HL.out ?_ ?_; (simp; omega); intro v7 w7 ho1 _ hg1; have HO1 := Lib.hid ho1; have HG1 := Lib.hid (Chg.new (hg.out.alloc _) hg1 (fun i hi => by omega)); clear ho1 hg1))
            go_roundw
            case rel => exact ⟨j + 1, by omega, by go_num, by rw [HT1.out]; exact HO1.out, HG1.out, any_bet_take hlt hno.out (by rw [HX.out]; exact HB.out), by rw [HT1.out]; exact OwnI.some_ HO1.out (by simp)⟩
            case measure => first | (simp [intOf]; done) | (simp [intOf]; omega)
          · skip
            have d1 : decide (f < y) = false := decide_eq_false (by omega)
            have d3 : decide (t < y) = false := decide_eq_false (by omega)
            go_wp2_with (first | (at_builtin; refine wp_append_int rfl _ _ rfl w36.heap.size _ (mvL (xs.take j) f t) rfl (ho.out.alloc _) _ (y) rfl (cell_new _ _ _ _) HYI.out HL.out ?_ ?_; (simp; omega); intro v7 w7 ho1 _ hg1; have HO1 := Lib.hid ho1; have HG1 := Lib.hid (Chg.new (hg.out.alloc _) hg1 (fun i hi => by omega)); clear ho1 hg1))
            go_roundw
            case rel => exact ⟨j + 1, by omega, by go_num, by rw [HT1.out]; exact HO1.out, HG1.out, any_bet_take hlt hno.out (by rw [HX.out]; exact HB.out), by rw [HT1.out]; exact OwnI.some_ HO1.out (by simp)⟩
            case measure => first | (simp [intOf]; done) | (simp [intOf]; omega)
      · obtain rfl : j = xs.length := by omega
        have hno' : xs.any (betB f t) = false := by have := hno.out; rwa [List.take_length] at this
        have HE := Lib.hid (appCode_e HP.out HM.out HF.out hno')
        have HO := Lib.hid (appOut_yes HE.out)
        clear hno'
        have hgz := hg.out.size
        rw [List.take_length] at ho hsh
        obtain ⟨g, cc, rfl⟩ := hsh.out
        have hml := mvL_length xs f t
        have HML := Lib.hid hml
        have hmle : (mvL xs f t).length ≤ 1000000 := by omega
        clear hml
        go_wp2_with fail
        refine (compact_any _ w36.heap.size _ (mvL xs f t) (ho.out.up (by repeat (first | exact Chg.refl _ _ | apply Chg.drew | apply Chg.drewN | refine Chg.alloc ?_ _))) hmle ⟨_, _, rfl⟩).mono ?_
        rintro e w9 ⟨v9, rfl, k9, g9⟩
        have K9 := Lib.hid k9
        have HG9 := Lib.hid (Chg.new (Chg.trans (Chg.trans U_37.out (by repeat (first | exact Chg.refl _ _ | apply Chg.drew | apply Chg.drewN | refine Chg.alloc ?_ _))) (Chg.trans hg.out (by repeat (first | exact Chg.refl _ _ | apply Chg.drew | apply Chg.drewN | refine Chg.alloc ?_ _)))) g9 (fun i hi h2 => by have := (ho.out.1.lt _ h2).1; omega))
        clear k9 g9
        go_wp2
        go_ret2
        exact ⟨_, ret_mi HE.out.symm, by rw [HO.out]; have := K9.out; rw [HML.out] at this; exact this.mono (fun b _ hb => ⟨by have := hb.1; omega, hb.2⟩), HG9.out⟩
end Go.Proofs.Ytplabnjdhkmmkaa
end
