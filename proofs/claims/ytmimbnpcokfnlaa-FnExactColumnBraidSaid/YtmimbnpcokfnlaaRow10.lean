/- The operations of letters of columns; CrossingOps on both sides. No condition but room. -/
import Derived.Test.YtmimbnpcokfnlaaRow9
import Derived.Test.YtmimbnpcokfnlaaCopy
namespace Go.Proofs.Ytmimbnpcokfnlaa
open Go.ChangeShapes Go.WideShapes Go.ChangeAt Go.RowKit
set_option maxRecDepth 100000 in
/-- 'out = append(out, list...)': the source reads as a list of operations -/
theorem wp_append_ops2 {w : World} {ops : Array Oper} {rest : List Oper} {o : Oper} {a : Act} {Q : Exit → Act → World → Prop} (hgd : o.guard = none) (s x : Operand)
    (ho : o.op = .call { callee := .builtin .append, args := #[s, x], argTypes := #[36, 36] })
    (base : Nat) (v : Value) (xs : List OpM) (hs : a.eval s = v) (hown : OwnO w base v xs)
    (S : Nat → Prop) (u : Value) (ys : List OpM) (hx : a.eval x = u) (hsrc : Ops w S u ys) (hlen : xs.length + ys.length ≤ 1099511627776) (hbase : base ≤ w.heap.size)
    (h : ∀ v' w', OwnO w' base v' (xs ++ ys) → Chg (fun b => v.ownBlock = some b) w w' → (∀ b, v'.ownBlock = some b → v.ownBlock = some b ∨ w.heap.size ≤ b) → Chg (fun k => base ≤ k) w w' → wpList Try.prog ops Q rest (a.put o.dst v') w') : wpList Try.prog ops Q (o :: rest) a w := by
  obtain ⟨i0, hi, hz0, hz1, hz2⟩ := info_parts infoOp
  obtain ⟨⟨hl, A, c, rfl, hlc, hcm, hr, hnn⟩, hok⟩ := hsrc
  have hok' : ∀ y ∈ xs ++ ys, y.ok := fun y hy => (List.mem_append.1 hy).elim (hown.2 y) (hok y)
  cases A with
  | none =>
    have hy : ys = [] := by
      rcases Nat.eq_zero_or_pos ys.length with h0 | h0
      · exact List.eq_nil_of_length_eq_zero h0
      · obtain ⟨b, oo, h1, _⟩ := hr h0
        cases h1
    subst hy
    obtain rfl := hnn rfl
    refine wpList_append_own_none hgd s x 36 ho base 109 i0 8 Try.underlying36 hi v xs.length _ hs hown.1 hx ?_
    exact h v w (by simpa using hown) (Chg.refl _ _) (fun b hb => .inl hb) (Chg.refl _ _)
  | some ad =>
    have hnews : ∀ j q, (ys.flatMap OpM.cells)[j]? = some q → w.cell? (ad.add j) = some q := by
      intro j q hq
      obtain ⟨hj, he⟩ := List.getElem?_eq_some_iff.1 hq
      have hp : 0 < ys.length := by
        rcases Nat.eq_zero_or_pos ys.length with h0 | h0
        · rw [List.eq_nil_of_length_eq_zero h0] at hj; simp at hj
        · exact h0
      obtain ⟨b, oo, h1, _, _, hc⟩ := hr hp
      injection h1 with h1
      subst h1
      have := (hc j hj).1
      rw [he] at this
      rw [← this]
      unfold Addr.add
      by_cases h0 : j = 0 <;> simp [h0]
    refine wpList_append_own2 (P := Try.prog) hgd s x 36 ho base 109 i0 _ 8 64 Try.underlying36 hi hz0 hz1 hz2 rfl (by decide) v xs.length _ hs hown.1 ad ys.length c (ys.flatMap OpM.cells) hx hl hnews ?_ ?_ ?_ hbase ?_
    · intro q hq
      obtain ⟨y, _, hy⟩ := List.mem_flatMap.1 hq
      exact cells_one y q hy
    · unfold Go.maxLen; omega
    · omega
    · intro v' w' h2 h3 h4
      exact h v' w' ⟨by simpa using h2, hok'⟩ (Chg.of_grown h3) h4 ((Chg.refl _ _).grown h3 fun k hk => .inl (hown.1.lt k hk).1)
def crossL (first : Int) (ws : List Int) : List OpM := ws.flatMap fun k => crossM (first + 2 * (absI k - 1)) (decide (0 < k))
theorem crossL_len (first : Int) (ws : List Int) : (crossL first ws).length = 12 * ws.length := by
  induction ws with
  | nil => rfl
  | cons k ws ih => simp only [crossL, List.flatMap_cons, List.length_append, List.length_cons] at *; rw [ih, crossM_length]; omega
theorem crossL_take (first : Int) {ws : List Int} {j : Nat} (h : j < ws.length) : crossL first (ws.take (j + 1)) = crossL first (ws.take j) ++ crossM (first + 2 * (absI ws[j] - 1)) (decide (0 < ws[j])) := by
  unfold crossL
  rw [List.take_succ_eq_append_getElem h, List.flatMap_append]
  simp
def letOk (hi : Int) (ws : List Int) : Prop := ∀ k ∈ ws, 1 ≤ absI k ∧ absI k ≤ hi
theorem absI_le {k hi : Int} (h : absI k ≤ hi) : -hi ≤ k ∧ k ≤ hi := by unfold absI at h; split at h <;> omega
set_option maxRecDepth 100000 in
set_option maxHeartbeats 4000000 in
theorem crossOps_any (w : World) (S : Nat → Prop) (v : Value) (first : Int) (ws : List Int) (h : Ints w S v ws) (hf : 1 ≤ first ∧ first ≤ 100) (hw : letOk 100 ws) (hl : ws.length ≤ 1000) :
    Calls Try.prog 227 #[.int .i64 first, v] w fun e w' => ∃ v', e = .returned v' ∧ Ops w' (New w.heap.size w'.heap.size) v' (crossL first ws) ∧ Up w w' := by
  obtain ⟨A, c, rfl, hlc, hcm, -⟩ := h.shape
  have H := Lib.hid h
  have HW := Lib.hid hw
  obtain ⟨hf0, hf1⟩ := hf
  clear h hw
  go_enter Try.func227, Try.ntmps227
  go_wp2
  go_loopw [5, 7, 11] (fun v _ i wr => ∃ j : Nat, j ≤ ws.length ∧ i = .int .i64 j ∧ Hid (OwnO wr w.heap.size v (crossL first (ws.take j))) ∧ Hid (Up w wr)) (fun _ _ i _ => ws.length - (intOf i).toNat)
  case atStart => exact ⟨0, by omega, rfl, OwnO.made w _ (Nat.le_refl _), (Chg.refl _ _).alloc _⟩
  case round =>
    obtain ⟨j, hj, rfl, ho, hg⟩ := hrel
    by_cases hlt : j < ws.length
    · obtain ⟨b1, o1, rfl, -, hc⟩ := H.out.ix hlt
      have f1 := Chg.cell hg.out (hc j hlt) id
      rw [ix_eq hlt] at f1
      obtain ⟨ha0, ha1⟩ := HW.out _ (List.getElem_mem hlt)
      have hk := absI_le ha1
      have HT := Lib.hid (crossL_take first hlt)
      have HLL := Lib.hid (show (crossL first (ws.take j)).length + (crossM (first + 2 * (absI ws[j] - 1)) (decide (0 < ws[j]))).length ≤ 1099511627776 by rw [crossL_len, crossM_length, List.length_take]; omega)
      clear hc
      go_wp2_with fail
      refine (size_any _ _ ⟨by omega, by omega⟩).mono ?_
      rintro e w' ⟨rfl, rfl⟩
      go_wp2_with fail
      refine (crossColumns_any _ (first + 2 * (absI ws[j] - 1)) _ (by omega) (by omega)).mono ?_
      rintro e w2 ⟨v2, rfl, k2, g2⟩
      obtain ⟨A5, c5, rfl, hlc5, hcm5, -⟩ := k2.shape
      have HO1 := Lib.hid (OwnO.up (ho.out.up (by repeat (first | exact Chg.refl _ _ | apply Chg.drew | apply Chg.drewN | refine Chg.alloc ?_ _))) g2)
      have HG1 := Lib.hid (Chg.trans (Chg.trans hg.out (by repeat (first | exact Chg.refl _ _ | apply Chg.drew | apply Chg.drewN | refine Chg.alloc ?_ _))) g2)
      have HK1 := Lib.hid k2
      have hz2 := HG1.out.size
      clear ho hg k2 g2
      go_wp2_with (first | (at_builtin; refine wp_append_ops rfl _ _ rfl w.heap.size _ (crossL first (ws.take j)) rfl HO1.out _ _ (crossM (first + 2 * (absI ws[j] - 1)) (decide (0 < ws[j]))) rfl HK1.out HLL.out ?_ ?_; (first | omega | (simp; omega)); intro v' w3 ho1 _ hg1; have HO := Lib.hid ho1; have HG := Lib.hid (Chg.new HG1.out hg1 (fun i hi => by omega)); clear ho1 hg1 HO1 HG1 HK1))
      go_roundw
      case rel => exact ⟨j + 1, by omega, by go_num, by rw [HT.out]; exact HO.out, HG.out⟩
      case measure => simp [intOf]; omega
    · obtain rfl : j = ws.length := by omega
      have HX := Lib.hid (show ws.take ws.length = ws by rw [List.take_length])
      go_wp2
      go_ret
      exact ⟨_, rfl, by have := ho.out.ops; rw [HX.out] at this; exact this, hg.out⟩
theorem sCrossColumns_ok (w : World) (l : Int) (f : Bool) (h : 1 ≤ l ∧ l ≤ 20) :
    Calls Try.prog 176 #[.int .i64 l, .bool f] w fun e w' => ∃ v, e = .returned (.tuple #[v, .int .i64 0]) ∧ Ops w' (New w.heap.size w'.heap.size) v (crossM l f) ∧ Up w w' := by
  have HB := Lib.hid h
  go_enter Try.func176, Try.ntmps176
  go_wp2_with fail
  refine (l00In_yes _ _ _ _ HB.out).mono ?_
  rintro e w' ⟨rfl, rfl⟩
  go_wp2_with fail
  refine (l22Cross_any _ l f (by omega) (by omega)).mono ?_
  rintro e w1 ⟨v1, rfl, k1, g1⟩
  have K1 := Lib.hid k1
  have G1 := Lib.hid g1
  clear k1 g1
  go_wp2
  go_ret2
  exact ⟨_, rfl, K1.out, G1.out⟩
theorem needle_letter {k : Int} (h : 1 ≤ absI k ∧ absI k ≤ 7) : (1 ≤ 2 * (absI k - 1) + 1 ∧ 2 * (absI k - 1) + 1 ≤ 20) ∧ (0 ≤ absI k - 1 ∧ absI k - 1 ≤ 1000) := by omega
set_option maxRecDepth 100000 in
set_option maxHeartbeats 8000000 in
theorem l23Crossings_any (w : World) (S : Nat → Prop) (b o : Nat) (r : RowM) (h : RowAt w S b o r) (hr : rowCodeM r.d r.c r.xs = 0) :
    Calls Try.prog 119 #[.pointer (some ⟨b, o, none⟩)] w fun e w' => ∃ v, e = .returned (.tuple #[v, .int .i64 0]) ∧ Ops w' (New w.heap.size w'.heap.size) v (crossL 1 (letL 0 r.xs)) ∧ Up w w' := by
  have HR := Lib.hid h
  have HS := Lib.hid (laid_st_results hr)
  have HW := Lib.hid (show letOk 7 (letL 0 r.xs) from fun k hk => absI_bd ((laid_of hr).letters k hk))
  have hl := (laid_of hr).len
  have hll := letL_length r.xs 0
  have M0 := Lib.hid (OwnO.made w w.heap.size (Nat.le_refl _))
  clear h hr
  go_enter Try.func119, Try.ntmps119
  go_wp2_with fail
  refine (l18Letters_any _ S _ _ r (HR.out.up (by repeat (first | exact Chg.refl _ _ | apply Chg.drew | apply Chg.drewN | refine Chg.alloc ?_ _))) HS.out).mono ?_
  rintro e w1 ⟨v1, rfl, k1, g1⟩
  obtain ⟨A, c, rfl, hlc, hcm, -⟩ := k1.shape
  have hz1 := g1.size
  have H := Lib.hid k1
  have M1 := Lib.hid (M0.out.up g1)
  have G1 := Lib.hid (Chg.trans (show Up w _ from (by repeat (first | exact Chg.refl _ _ | apply Chg.drew | apply Chg.drewN | refine Chg.alloc ?_ _))) g1)
  have hz0 := G1.out.size
  clear k1 g1 M0
  have hbb : w.heap.size + 1 ≤ w1.heap.size := by simp at hz1; omega
  generalize hws : letL 0 r.xs = ws at *
  have HWS := Lib.hid hws
  clear hws
  go_wp2
  go_loopw [4, 6, 7, 8] (fun v i _ _ wr => ∃ j : Nat, j ≤ ws.length ∧ i = .int .i64 j ∧ Hid (OwnO wr w.heap.size v (crossL 1 (ws.take j))) ∧ Hid (∀ g, v.ownBlock = some g → g < w.heap.size + 1 ∨ w1.heap.size ≤ g) ∧ Hid (Up w wr) ∧ Hid (Ints wr (New (w.heap.size + 1) w1.heap.size) (.slice A ws.length c) ws) ∧ w1.heap.size ≤ wr.heap.size) (fun _ i _ _ _ => ws.length - (intOf i).toNat)
  case atStart => exact ⟨0, by omega, rfl, by simpa [Hid, crossL] using M1.out, fun g hg => .inl (by simp [Value.ownBlock] at hg; omega), G1.out, H.out.mono (fun x _ hx => ⟨by have := hx.1; simp at this; exact this, hx.2⟩), Nat.le_refl _⟩
  clear M1 H
  case round =>
    obtain ⟨j, hj, rfl, ho, hf, hg, hK, hsz1⟩ := hrel
    by_cases hlt : j < ws.length
    · obtain ⟨b1, o1, he1, hbl, hc⟩ := hK.out.ix hlt
      obtain rfl : A = some ⟨b1, o1, none⟩ := he1
      have f1 := hc j hlt
      rw [ix_eq hlt] at f1
      obtain ⟨ha0, ha1⟩ := HW.out _ (List.getElem_mem hlt)
      have HB := Lib.hid (needle_letter ⟨ha0, ha1⟩)
      have hk := absI_le ha1
      have HT := Lib.hid (crossL_take 1 hlt)
      have HLL := Lib.hid (show (crossL 1 (ws.take j)).length + (crossM (1 + 2 * (absI ws[j] - 1)) (decide (0 < ws[j]))).length ≤ 1099511627776 by rw [crossL_len, crossM_length, List.length_take]; omega)
      have HE := Lib.hid (show 2 * (absI ws[j] - 1) + 1 = 1 + 2 * (absI ws[j] - 1) by omega)
      have hsz := hg.out.size
      clear hc
      go_wp2
      have w1s : IntKind.i64.wrap (absI ws[j] - 1) = absI ws[j] - 1 := IntWalk.i64_in _ (by omega)
      go_region_held3 (fun w' => w'.cell? ⟨b1, o1 + j, none⟩ = some (.int .i64 ws[j]))
        (first | (exact f1) | (exact Chg.cell g1 (by assumption) id))
        (first | (go_at_call 138; refine (sAbs_any _ _ ⟨by omega, by omega⟩).mono ?_; rintro e w' ⟨rfl, rfl⟩) | (go_at_call 177; refine (l20Needle_any _ _ ?_).mono ?_; (exact HB.out.2); rintro e w' ⟨rfl, rfl⟩) | (go_at_call 176; refine (sCrossColumns_ok _ _ _ ?_).mono ?_; (exact HB.out.1); rintro e w2 ⟨v1, rfl, k1, g1⟩; obtain ⟨A1, c1, rfl, hl1, hc1, -⟩ := k1.shape; have HK1 := Lib.hid k1; have HO1 := Lib.hid (OwnO.up (ho.out.up (by repeat (first | exact Chg.refl _ _ | apply Chg.drew | apply Chg.drewN | refine Chg.alloc ?_ _))) g1); have HG1 := Lib.hid (Chg.trans (Chg.trans hg.out (by repeat (first | exact Chg.refl _ _ | apply Chg.drew | apply Chg.drewN | refine Chg.alloc ?_ _))) g1); have HKK := Lib.hid (Ints.up (hK.out.up (by repeat (first | exact Chg.refl _ _ | apply Chg.drew | apply Chg.drewN | refine Chg.alloc ?_ _))) g1); have hsz2 := HG1.out.size; have hsz3 : wr.heap.size ≤ w2.heap.size := g1.size))
      clear g1 f1
      have HM := Lib.hid (show crossL 1 (ws.take (j + 1)) = crossL 1 (ws.take j) ++ crossM (2 * (absI ws[j] - 1) + 1) (decide (0 < ws[j])) by rw [HT.out, HE.out])
      have HLM := Lib.hid (show (crossL 1 (ws.take j)).length + (crossM (2 * (absI ws[j] - 1) + 1) (decide (0 < ws[j]))).length ≤ 1099511627776 by have := HLL.out; rw [crossM_length] at *; exact this)
      clear ho hg hK
      go_wp2_with (first | (at_builtin; refine wp_append_ops2 rfl _ _ rfl w.heap.size _ (crossL 1 (ws.take j)) rfl HO1.out _ _ (crossM (2 * (absI ws[j] - 1) + 1) (decide (0 < ws[j]))) rfl HK1.out HLM.out ?_ ?_; (first | omega | (simp; omega)); intro v' w3 ho1 ho2 ho3 hg1; have HO := Lib.hid ho1; have HB2 := Lib.hid ho2; have HB3 := Lib.hid ho3; have HG := Lib.hid (Chg.new HG1.out hg1 (fun i hi => by omega)); have hsz4 : w2.heap.size ≤ w3.heap.size := hg1.size; clear ho1 ho2 ho3 hg1))
      go_roundw
      case rel => exact ⟨j + 1, by omega, by go_num, by rw [HM.out]; exact HO.out, fun g hgg => (HB3.out g hgg).elim (hf.out g) (fun hh => .inr (by have h9 : w2.heap.size ≤ g := hh; omega)), HG.out, HKK.out.keep HB2.out (fun x _ hx hv => by have := hf.out x hv; simp only [New] at hx; omega), by omega⟩
      case measure => simp [intOf]; omega
    · obtain rfl : j = ws.length := by omega
      have HX := Lib.hid (show ws.take ws.length = ws by rw [List.take_length])
      go_wp2
      go_ret2
      exact ⟨_, rfl, by have := ho.out.ops; rw [HX.out] at this; rw [HWS.out]; exact this, hg.out⟩
set_option maxHeartbeats 2000000 in
theorem crossingOps_any (w : World) (S : Nat → Prop) (v : Value) (r : RowM) (h : RowV w S v r) (hr : rowCodeM r.d r.c r.xs = 0) :
    Calls Try.prog 189 #[v] w fun e w' => ∃ v', e = .returned v' ∧ Ops w' (New w.heap.size w'.heap.size) v' (crossL 1 (letL 0 r.xs)) ∧ Up w w' := by
  obtain ⟨A, c, rfl, h4, h5, h6⟩ := openRow h
  have HI := Lib.hid h
  have U0 := Lib.hid (Chg.refl Nowhere w)
  have HS := Lib.hid (laid_st_results hr)
  have HW := Lib.hid (show letOk 100 (letL 0 r.xs) from fun k hk => by have := absI_bd ((laid_of hr).letters k hk); omega)
  have hll := letL_length r.xs 0
  have hl := (laid_of hr).len
  clear h h4 hr
  have U_1 := Lib.hid (Chg.trans U0.out ((Chg.refl Nowhere w).alloc (.cells #[.int .i64 r.d, .int .i64 r.c, .slice A r.xs.length c] 66)))
  clear U0
  have I_2 := Lib.hid (HI.out.up ((Chg.refl Nowhere w).alloc (.cells #[.int .i64 r.d, .int .i64 r.c, .slice A r.xs.length c] 66)))
  clear HI
  have q0_3 := (show (w.alloc (.cells #[.int .i64 r.d, .int .i64 r.c, .slice A r.xs.length c] 66)).cell? ⟨w.heap.size, 0, none⟩ = some (.int .i64 r.d) from cell_new _ _ _ _)
  have q1_4 := (show (w.alloc (.cells #[.int .i64 r.d, .int .i64 r.c, .slice A r.xs.length c] 66)).cell? ⟨w.heap.size, 1, none⟩ = some (.int .i64 r.c) from cell_new _ _ _ _)
  have q2_5 := (show (w.alloc (.cells #[.int .i64 r.d, .int .i64 r.c, .slice A r.xs.length c] 66)).cell? ⟨w.heap.size, 2, none⟩ = some (.slice A r.xs.length c) from cell_new _ _ _ _)
  have hbx6 : w.heap.size < (w.alloc (.cells #[.int .i64 r.d, .int .i64 r.c, .slice A r.xs.length c] 66)).heap.size := by simp
  go_enter Try.func189, Try.ntmps189
  go_wp2_with fail
  refine (letters_any _ S _ r (I_2.out.up (by repeat (first | exact Chg.refl _ _ | apply Chg.drew | apply Chg.drewN | refine Chg.alloc ?_ _))) HS.out).mono ?_
  rintro e w7 ⟨v7, rfl, k1, g1⟩
  obtain ⟨A7, c7, rfl, hl7, hc7, -⟩ := k1.shape
  have K1 := Lib.hid k1
  clear k1
  have G1 := Lib.hid g1
  have hz7 := G1.out.size
  clear g1
  have U_8 := Lib.hid (Chg.trans U_1.out (Chg.trans (by repeat (first | exact Chg.refl _ _ | apply Chg.drew | apply Chg.drewN | refine Chg.alloc ?_ _)) G1.out))
  clear U_1
  have I_9 := Lib.hid (I_2.out.up (Chg.trans (by repeat (first | exact Chg.refl _ _ | apply Chg.drew | apply Chg.drewN | refine Chg.alloc ?_ _)) G1.out))
  clear I_2
  have q0_10 := Chg.cell (Chg.trans (by repeat (first | exact Chg.refl _ _ | apply Chg.drew | apply Chg.drewN | refine Chg.alloc ?_ _)) G1.out) q0_3 id
  clear q0_3
  have q1_11 := Chg.cell (Chg.trans (by repeat (first | exact Chg.refl _ _ | apply Chg.drew | apply Chg.drewN | refine Chg.alloc ?_ _)) G1.out) q1_4 id
  clear q1_4
  have q2_12 := Chg.cell (Chg.trans (by repeat (first | exact Chg.refl _ _ | apply Chg.drew | apply Chg.drewN | refine Chg.alloc ?_ _)) G1.out) q2_5 id
  clear q2_5
  clear G1
  have K_13 := Lib.hid (K1.out)
  clear K1
  go_wp2_with fail
  refine (crossOps_any _ _ _ 1 _ (K_13.out.up (by repeat (first | exact Chg.refl _ _ | apply Chg.drew | apply Chg.drewN | refine Chg.alloc ?_ _))) ⟨by omega, by omega⟩ HW.out (by omega)).mono ?_
  rintro e w14 ⟨v14, rfl, k1, g1⟩
  obtain ⟨A14, c14, rfl, hl14, hc14, -⟩ := k1.shape
  have K1 := Lib.hid k1
  clear k1
  have G1 := Lib.hid g1
  have hz14 := G1.out.size
  clear g1
  have U_15 := Lib.hid (Chg.trans U_8.out (Chg.trans (by repeat (first | exact Chg.refl _ _ | apply Chg.drew | apply Chg.drewN | refine Chg.alloc ?_ _)) G1.out))
  clear U_8
  have I_16 := Lib.hid (I_9.out.up (Chg.trans (by repeat (first | exact Chg.refl _ _ | apply Chg.drew | apply Chg.drewN | refine Chg.alloc ?_ _)) G1.out))
  clear I_9
  have q0_17 := Chg.cell (Chg.trans (by repeat (first | exact Chg.refl _ _ | apply Chg.drew | apply Chg.drewN | refine Chg.alloc ?_ _)) G1.out) q0_10 id
  clear q0_10
  have q1_18 := Chg.cell (Chg.trans (by repeat (first | exact Chg.refl _ _ | apply Chg.drew | apply Chg.drewN | refine Chg.alloc ?_ _)) G1.out) q1_11 id
  clear q1_11
  have q2_19 := Chg.cell (Chg.trans (by repeat (first | exact Chg.refl _ _ | apply Chg.drew | apply Chg.drewN | refine Chg.alloc ?_ _)) G1.out) q2_12 id
  clear q2_12
  have K_20 := Lib.hid (K_13.out.up (Chg.trans (by repeat (first | exact Chg.refl _ _ | apply Chg.drew | apply Chg.drewN | refine Chg.alloc ?_ _)) G1.out))
  clear K_13
  clear G1
  have O_21 := Lib.hid (K1.out)
  clear K1
  go_wp2
  go_ret
  exact ⟨_, rfl, O_21.out.mono (fun b _ hb => ⟨by have := hb.1; simp at *; omega, hb.2⟩), (Chg.trans U_15.out (by repeat (first | exact Chg.refl _ _ | apply Chg.drew | apply Chg.drewN | refine Chg.alloc ?_ _)))⟩
def crossingOut (r : RowM) : List OpM := if rowCodeM r.d r.c r.xs = 0 then crossL 1 (letL 0 r.xs) else []
theorem crossingOut_bd (r : RowM) : cntOps (crossingOut r) ≤ 1000000 := by
  unfold crossingOut cntOps
  split
  · rename_i h
    have hl := (laid_of h).len
    have := letL_length r.xs 0
    rw [crossL_len]
    omega
  · simp
end Go.Proofs.Ytmimbnpcokfnlaa
