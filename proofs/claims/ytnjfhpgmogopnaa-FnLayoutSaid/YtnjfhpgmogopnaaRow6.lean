/- New columns and the targets of columns, on both sides. No condition but room. -/
import Derived.Test.YtnjfhpgmogopnaaRowLaw
import Derived.Test.YtnjfhpgmogopnaaRowL
import Derived.Laws.AppendOwnNone
namespace Go.Proofs.Ytnjfhpgmogopnaa
open Go.ChangeShapes Go.WideShapes Go.ChangeAt Go.RowKit
set_option maxRecDepth 100000 in
/-- 'out = append(out, list...)' -/
theorem wp_append_ints {w : World} {ops : Array Oper} {rest : List Oper} {o : Oper} {a : Act} {Q : Exit → Act → World → Prop} (hgd : o.guard = none) (s x : Operand)
    (ho : o.op = .call { callee := .builtin .append, args := #[s, x], argTypes := #[37, 37] })
    (base : Nat) (v : Value) (xs : List Int) (hs : a.eval s = v) (hown : OwnI w base v xs)
    (S : Nat → Prop) (u : Value) (ys : List Int) (hx : a.eval x = u) (hsrc : Ints w S u ys) (hlen : xs.length + ys.length ≤ 1099511627776) (hbase : base ≤ w.heap.size)
    (h : ∀ v' w', OwnI w' base v' (xs ++ ys) → Chg (fun b => v.ownBlock = some b) w w' → (∀ b, v'.ownBlock = some b → v.ownBlock = some b ∨ w.heap.size ≤ b) → Chg (fun k => base ≤ k) w w' → wpList Try.prog ops Q rest (a.put o.dst v') w') : wpList Try.prog ops Q (o :: rest) a w := by
  obtain ⟨i0, hi, hz0, hz1, hz2⟩ := info_parts info2
  obtain ⟨A, c, rfl, hlc, hcm, hok, hr, hnn⟩ := hsrc
  have hok' : ∀ y ∈ xs ++ ys, I64 y := fun y hy => (List.mem_append.1 hy).elim (hown.2 y) (hok y)
  cases A with
  | none =>
    have hy : ys = [] := by
      rcases Nat.eq_zero_or_pos ys.length with h0 | h0
      · exact List.eq_nil_of_length_eq_zero h0
      · obtain ⟨b, oo, h1, _⟩ := hr h0
        cases h1
    subst hy
    obtain rfl := hnn rfl
    refine wpList_append_own_none hgd s x 37 ho base 2 i0 1 Try.underlying37 hi v xs.length _ hs hown.1 hx ?_
    exact h v w (by simpa using hown) (Chg.refl _ _) (fun b hb => .inl hb) (Chg.refl _ _)
  | some ad =>
    have hnews : ∀ j q, (ys.map (Value.int .i64))[j]? = some q → w.cell? (ad.add j) = some q := by
      intro j q hq
      obtain ⟨hj, he⟩ := List.getElem?_eq_some_iff.1 hq
      have hj' : j < ys.length := by simpa using hj
      obtain ⟨b, oo, h1, _, _, hc⟩ := hr (by omega)
      injection h1 with h1
      subst h1
      have := (hc j hj').1
      rw [← he, List.getElem_map, ← this]
      unfold Addr.add
      by_cases h0 : j = 0 <;> simp [h0]
    refine wpList_append_own2 (P := Try.prog) hgd s x 37 ho base 2 i0 (.int .i64 0) 1 8 Try.underlying37 hi hz0 hz1 hz2 rfl (by decide) v xs.length _ hs hown.1 ad ys.length c (ys.map (Value.int .i64)) hx (by simp) hnews ?_ ?_ ?_ hbase ?_
    · intro q hq
      obtain ⟨y, _, rfl⟩ := List.mem_map.1 hq
      rfl
    · unfold Go.maxLen; omega
    · omega
    · intro v' w' h2 h3 h4
      exact h v' w' ⟨by simpa using h2, hok'⟩ (Chg.of_grown h3) h4 ((Chg.refl _ _).grown h3 fun k hk => .inl (hown.1.lt k hk).1)
/-- the columns that stitches StOver make -/
def newL : Int → List Int → List Int
  | _, [] => []
  | a, k :: ks => (if k = 3 then countM a (madeK k) else []) ++ newL (a + madeK k) ks
theorem newL_append : ∀ (ks ls : List Int) (a : Int), newL a (ks ++ ls) = newL a ks ++ newL (a + sumF madeK ks) ls
  | [], ls, a => by simp [newL, sumF]
  | k :: ks, ls, a => by
    simp only [List.cons_append, newL, newL_append ks ls, sumF, List.append_assoc]
    rw [Int.add_assoc]
theorem newL_take {xs : List Int} {j : Nat} (h : j < xs.length) : newL 0 (xs.take (j + 1)) = newL 0 (xs.take j) ++ (if xs[j] = 3 then countM (sumF madeK (xs.take j)) (madeK xs[j]) else []) := by
  rw [List.take_succ_eq_append_getElem h, newL_append]
  simp [newL]
theorem newL_len : ∀ (ks : List Int) (a : Int), (newL a ks).length ≤ 4 * ks.length
  | [], _ => by simp [newL]
  | k :: ks, a => by
    have h1 := newL_len ks (a + madeK k)
    have h2 := madeK_bd k
    simp only [newL, List.length_append, List.length_cons]
    split
    · rw [countM_length]; omega
    · simp; omega
def newOut (r : RowM) : List Int := if rowCodeM r.d r.c r.xs = 0 then newL 0 r.xs else []
theorem newOut_bd (r : RowM) : cntInts (newOut r) ≤ 1000000 := by
  unfold newOut cntInts
  split
  · rename_i h
    have hl := (laid_of h).len
    have := newL_len r.xs 0
    omega
  · simp
def Off (lo hi : Nat) (v : Value) : Prop := ∀ g, v.ownBlock = some g → g < lo ∨ hi ≤ g
set_option maxHeartbeats 4000000 in
theorem NewColumns_any (w : World) (S : Nat → Prop) (v : Value) (r : RowM) (h : RowV w S v r) :
    Calls Try.prog 56 #[v] w fun e w' => ∃ v, e = .returned (.tuple #[v, .int .i64 (rowCodeM r.d r.c r.xs)]) ∧ Ints w' (New w.heap.size w'.heap.size) v (newOut r) ∧ Up w w' := by
  obtain ⟨A, c, rfl, h4, h5, h6⟩ := openRow h
  have U0 := Lib.hid (Chg.refl Nowhere w)
  have HI := Lib.hid h
  have HI4 := Lib.hid h4
  clear h4 h
  by_cases hz : rowCodeM r.d r.c r.xs = 0
  rotate_left
  · have HO := Lib.hid (show newOut r = [] from if_neg hz)
    have hz2 : (rowCodeM r.d r.c r.xs != 0) = true := by simpa using hz
    clear hz
    have U_1 := Lib.hid (Chg.trans U0.out ((Chg.refl Nowhere w).alloc (.cells #[.int .i64 r.d, .int .i64 r.c, .slice A r.xs.length c] 87)))
    clear U0
    have I_2 := Lib.hid (HI.out.up ((Chg.refl Nowhere w).alloc (.cells #[.int .i64 r.d, .int .i64 r.c, .slice A r.xs.length c] 87)))
    clear HI
    have J_3 := Lib.hid (HI4.out.up ((Chg.refl Nowhere w).alloc (.cells #[.int .i64 r.d, .int .i64 r.c, .slice A r.xs.length c] 87)))
    clear HI4
    have q0_4 := (show (w.alloc (.cells #[.int .i64 r.d, .int .i64 r.c, .slice A r.xs.length c] 87)).cell? ⟨w.heap.size, 0, none⟩ = some (.int .i64 r.d) from cell_new _ _ _ _)
    have q1_5 := (show (w.alloc (.cells #[.int .i64 r.d, .int .i64 r.c, .slice A r.xs.length c] 87)).cell? ⟨w.heap.size, 1, none⟩ = some (.int .i64 r.c) from cell_new _ _ _ _)
    have q2_6 := (show (w.alloc (.cells #[.int .i64 r.d, .int .i64 r.c, .slice A r.xs.length c] 87)).cell? ⟨w.heap.size, 2, none⟩ = some (.slice A r.xs.length c) from cell_new _ _ _ _)
    have hbx7 : w.heap.size < (w.alloc (.cells #[.int .i64 r.d, .int .i64 r.c, .slice A r.xs.length c] 87)).heap.size := by simp
    go_enter Try.func56, Try.ntmps56
    go_wp2_with fail
    refine (rowCode_any _ S _ r (I_2.out.up (by repeat (first | exact Chg.refl _ _ | apply Chg.drew | apply Chg.drewN | refine Chg.alloc ?_ _)))).mono ?_
    rintro e w8 ⟨rfl, g1⟩
    have G1 := Lib.hid g1
    obtain ⟨hy8, hz8⟩ := up_pre (show Up (w.alloc (.cells #[.int .i64 r.d, .int .i64 r.c, .slice A r.xs.length c] 87)) _ from (by repeat (first | exact Chg.refl _ _ | apply Chg.drew | apply Chg.drewN | refine Chg.alloc ?_ _))) G1.out
    clear g1
    have U_9 := Lib.hid (Chg.trans U_1.out (Chg.trans (by repeat (first | exact Chg.refl _ _ | apply Chg.drew | apply Chg.drewN | refine Chg.alloc ?_ _)) G1.out))
    clear U_1
    have I_10 := Lib.hid (I_2.out.up (Chg.trans (by repeat (first | exact Chg.refl _ _ | apply Chg.drew | apply Chg.drewN | refine Chg.alloc ?_ _)) G1.out))
    clear I_2
    have J_11 := Lib.hid (J_3.out.up (Chg.trans (by repeat (first | exact Chg.refl _ _ | apply Chg.drew | apply Chg.drewN | refine Chg.alloc ?_ _)) G1.out))
    clear J_3
    have q0_12 := Chg.cell (Chg.trans (by repeat (first | exact Chg.refl _ _ | apply Chg.drew | apply Chg.drewN | refine Chg.alloc ?_ _)) G1.out) q0_4 id
    clear q0_4
    have q1_13 := Chg.cell (Chg.trans (by repeat (first | exact Chg.refl _ _ | apply Chg.drew | apply Chg.drewN | refine Chg.alloc ?_ _)) G1.out) q1_5 id
    clear q1_5
    have q2_14 := Chg.cell (Chg.trans (by repeat (first | exact Chg.refl _ _ | apply Chg.drew | apply Chg.drewN | refine Chg.alloc ?_ _)) G1.out) q2_6 id
    clear q2_6
    clear G1
    go_wp2
    go_ret2
    exact ⟨_, rfl, by rw [HO.out]; exact Ints.nil _ _ _ _ (by omega), (Chg.trans U_9.out (by repeat (first | exact Chg.refl _ _ | apply Chg.drew | apply Chg.drewN | refine Chg.alloc ?_ _)))⟩
  have HO := Lib.hid (show newOut r = newL 0 r.xs from if_pos hz)
  have HS := Lib.hid (laid_st_results hz)
  have hlen := (laid_of hz).len
  have HZ := Lib.hid hz
  clear hz
  have U_15 := Lib.hid (Chg.trans U0.out ((Chg.refl Nowhere w).alloc (.cells #[.int .i64 r.d, .int .i64 r.c, .slice A r.xs.length c] 87)))
  clear U0
  have I_16 := Lib.hid (HI.out.up ((Chg.refl Nowhere w).alloc (.cells #[.int .i64 r.d, .int .i64 r.c, .slice A r.xs.length c] 87)))
  clear HI
  have J_17 := Lib.hid (HI4.out.up ((Chg.refl Nowhere w).alloc (.cells #[.int .i64 r.d, .int .i64 r.c, .slice A r.xs.length c] 87)))
  clear HI4
  have q0_18 := (show (w.alloc (.cells #[.int .i64 r.d, .int .i64 r.c, .slice A r.xs.length c] 87)).cell? ⟨w.heap.size, 0, none⟩ = some (.int .i64 r.d) from cell_new _ _ _ _)
  have q1_19 := (show (w.alloc (.cells #[.int .i64 r.d, .int .i64 r.c, .slice A r.xs.length c] 87)).cell? ⟨w.heap.size, 1, none⟩ = some (.int .i64 r.c) from cell_new _ _ _ _)
  have q2_20 := (show (w.alloc (.cells #[.int .i64 r.d, .int .i64 r.c, .slice A r.xs.length c] 87)).cell? ⟨w.heap.size, 2, none⟩ = some (.slice A r.xs.length c) from cell_new _ _ _ _)
  have hbx21 : w.heap.size < (w.alloc (.cells #[.int .i64 r.d, .int .i64 r.c, .slice A r.xs.length c] 87)).heap.size := by simp
  go_enter Try.func56, Try.ntmps56
  go_wp2_with fail
  refine (rowCode_any _ S _ r (I_16.out.up (by repeat (first | exact Chg.refl _ _ | apply Chg.drew | apply Chg.drewN | refine Chg.alloc ?_ _)))).mono ?_
  rintro e w22 ⟨rfl, g1⟩
  have G1 := Lib.hid g1
  obtain ⟨hy22, hz22⟩ := up_pre (show Up (w.alloc (.cells #[.int .i64 r.d, .int .i64 r.c, .slice A r.xs.length c] 87)) _ from (by repeat (first | exact Chg.refl _ _ | apply Chg.drew | apply Chg.drewN | refine Chg.alloc ?_ _))) G1.out
  clear g1
  have U_23 := Lib.hid (Chg.trans U_15.out (Chg.trans (by repeat (first | exact Chg.refl _ _ | apply Chg.drew | apply Chg.drewN | refine Chg.alloc ?_ _)) G1.out))
  clear U_15
  have I_24 := Lib.hid (I_16.out.up (Chg.trans (by repeat (first | exact Chg.refl _ _ | apply Chg.drew | apply Chg.drewN | refine Chg.alloc ?_ _)) G1.out))
  clear I_16
  have J_25 := Lib.hid (J_17.out.up (Chg.trans (by repeat (first | exact Chg.refl _ _ | apply Chg.drew | apply Chg.drewN | refine Chg.alloc ?_ _)) G1.out))
  clear J_17
  have q0_26 := Chg.cell (Chg.trans (by repeat (first | exact Chg.refl _ _ | apply Chg.drew | apply Chg.drewN | refine Chg.alloc ?_ _)) G1.out) q0_18 id
  clear q0_18
  have q1_27 := Chg.cell (Chg.trans (by repeat (first | exact Chg.refl _ _ | apply Chg.drew | apply Chg.drewN | refine Chg.alloc ?_ _)) G1.out) q1_19 id
  clear q1_19
  have q2_28 := Chg.cell (Chg.trans (by repeat (first | exact Chg.refl _ _ | apply Chg.drew | apply Chg.drewN | refine Chg.alloc ?_ _)) G1.out) q2_20 id
  clear q2_20
  clear G1
  rw [HZ.out]
  have UA := U_23
  have JA := J_25
  have QA := q2_28
  have UB_29 := Lib.hid (Chg.refl Nowhere w22)
  have U_30 := Lib.hid (Chg.trans U_23.out ((Chg.refl Nowhere w22).alloc (.cells #[] 2)))
  clear U_23
  have I_31 := Lib.hid (I_24.out.up ((Chg.refl Nowhere w22).alloc (.cells #[] 2)))
  clear I_24
  have J_32 := Lib.hid (J_25.out.up ((Chg.refl Nowhere w22).alloc (.cells #[] 2)))
  clear J_25
  have q0_33 := Chg.cell ((Chg.refl Nowhere w22).alloc (.cells #[] 2)) q0_26 id
  clear q0_26
  have q1_34 := Chg.cell ((Chg.refl Nowhere w22).alloc (.cells #[] 2)) q1_27 id
  clear q1_27
  have q2_35 := Chg.cell ((Chg.refl Nowhere w22).alloc (.cells #[] 2)) q2_28 id
  clear q2_28
  have UB_36 := Lib.hid (Chg.trans UB_29.out ((Chg.refl Nowhere w22).alloc (.cells #[] 2)))
  clear UB_29
  have O_37 := Lib.hid (OwnI.made w22 w22.heap.size (Nat.le_refl _))
  go_wp2_with fail
  refine (results_any _ S _ r (I_31.out.up (by repeat (first | exact Chg.refl _ _ | apply Chg.drew | apply Chg.drewN | refine Chg.alloc ?_ _))) HS.out).mono ?_
  rintro e w38 ⟨v38, rfl, k1, g1⟩
  obtain ⟨A38, c38, rfl, hl38, hc38, -⟩ := k1.shape
  have K1 := Lib.hid k1
  clear k1
  have G1 := Lib.hid g1
  obtain ⟨hy38, hz38⟩ := up_pre (show Up (w22.alloc (.cells #[] 2)) _ from (by repeat (first | exact Chg.refl _ _ | apply Chg.drew | apply Chg.drewN | refine Chg.alloc ?_ _))) G1.out
  clear g1
  have U_39 := Lib.hid (Chg.trans U_30.out (Chg.trans (by repeat (first | exact Chg.refl _ _ | apply Chg.drew | apply Chg.drewN | refine Chg.alloc ?_ _)) G1.out))
  clear U_30
  have I_40 := Lib.hid (I_31.out.up (Chg.trans (by repeat (first | exact Chg.refl _ _ | apply Chg.drew | apply Chg.drewN | refine Chg.alloc ?_ _)) G1.out))
  clear I_31
  have J_41 := Lib.hid (J_32.out.up (Chg.trans (by repeat (first | exact Chg.refl _ _ | apply Chg.drew | apply Chg.drewN | refine Chg.alloc ?_ _)) G1.out))
  clear J_32
  have q0_42 := Chg.cell (Chg.trans (by repeat (first | exact Chg.refl _ _ | apply Chg.drew | apply Chg.drewN | refine Chg.alloc ?_ _)) G1.out) q0_33 id
  clear q0_33
  have q1_43 := Chg.cell (Chg.trans (by repeat (first | exact Chg.refl _ _ | apply Chg.drew | apply Chg.drewN | refine Chg.alloc ?_ _)) G1.out) q1_34 id
  clear q1_34
  have q2_44 := Chg.cell (Chg.trans (by repeat (first | exact Chg.refl _ _ | apply Chg.drew | apply Chg.drewN | refine Chg.alloc ?_ _)) G1.out) q2_35 id
  clear q2_35
  have UB_45 := Lib.hid (Chg.trans UB_36.out (Chg.trans (by repeat (first | exact Chg.refl _ _ | apply Chg.drew | apply Chg.drewN | refine Chg.alloc ?_ _)) G1.out))
  clear UB_36
  have O_46 := Lib.hid (O_37.out.up (Chg.trans (by repeat (first | exact Chg.refl _ _ | apply Chg.drew | apply Chg.drewN | refine Chg.alloc ?_ _)) G1.out))
  clear O_37
  clear G1
  have K_47 := Lib.hid (K1.out)
  clear K1
  have hbb : w22.heap.size + 1 ≤ w38.heap.size := by simp at *; omega
  have UAB := UB_45
  have HKK := Lib.hid (show IntSS w38 (New (w22.heap.size + 1) w38.heap.size) _ _ from K_47.out.mono (fun b hb => ⟨by have := hb.1; simp at this; exact this, hb.2⟩))
  have HLM := Lib.hid (listsM_length madeK 0 r.xs)
  go_wp2
  go_loopw [5, 6, 7, 17] (fun v _ _ i wr => ∃ j : Nat, j ≤ r.xs.length ∧ i = .int .i64 j ∧ Hid (OwnI wr w22.heap.size v (newL 0 (r.xs.take j))) ∧ Hid (Off (w22.heap.size + 1) w38.heap.size v) ∧ Hid (IntSS wr (New (w22.heap.size + 1) w38.heap.size) (.slice A38 (listsM madeK 0 r.xs).length c38) (listsM madeK 0 r.xs)) ∧ Hid (Up w22 wr) ∧ w38.heap.size ≤ wr.heap.size) (fun _ _ _ i _ => r.xs.length - (intOf i).toNat)
  case atStart => exact ⟨0, by omega, rfl, O_46.out, fun g hg => .inl (by simp [Value.ownBlock] at hg; omega), HKK.out, UAB.out, Nat.le_refl _⟩
  case round =>
    obtain ⟨j, hj, rfl, ho, hf, hK, hg, hsz2⟩ := hrel
    by_cases hlt : j < r.xs.length
    · have hlt2 : j < (listsM madeK 0 r.xs).length := by rw [HLM.out]; exact hlt
      obtain ⟨b1, o1, he1, -, hc⟩ := JA.out.ix hlt
      obtain rfl : A = some ⟨b1, o1, none⟩ := he1
      have f1 := Chg.cell hg.out (hc j hlt) id
      rw [ix_eq hlt] at f1
      have f2 := Chg.cell hg.out QA id
      have HT := Lib.hid (newL_take hlt)
      have HG2 := Lib.hid (listsM_get madeK 0 r.xs j hlt)
      have hsz := hg.out.size
      clear hc
      have hll := newL_len (r.xs.take j) 0
      rw [List.length_take] at hll
      obtain ⟨b, o, c', B, ci, he, hbS, hbl, g3, k3, h31, h32⟩ := hK.out.at_ hlt2
      obtain ⟨rfl, rfl⟩ : A38 = some ⟨b, o, none⟩ ∧ c38 = c' := by simpa using he
      have K3 := Lib.hid k3
      have hjl : (j : Int) < (listsM madeK 0 r.xs).length := by rw [HLM.out]; omega
      clear he k3
      by_cases h3 : r.xs[j] = 3
      · have hd : (r.xs[j] == 3) = true := by simpa using h3
        have HLL := Lib.hid (show (newL 0 (r.xs.take j)).length + ((listsM madeK 0 r.xs)[j]).length ≤ 1099511627776 by rw [HG2.out, countM_length]; have := madeK_bd r.xs[j]; omega)
        have HX := Lib.hid (show newL 0 (r.xs.take (j + 1)) = newL 0 (r.xs.take j) ++ (listsM madeK 0 r.xs)[j] by rw [HT.out, HG2.out, if_pos h3, Int.zero_add])
        clear h3
        go_wp2_with (first | (at_builtin; refine wp_append_ints rfl _ _ rfl w22.heap.size _ (newL 0 (r.xs.take j)) rfl ho.out _ _ ((listsM madeK 0 r.xs)[j]) rfl K3.out HLL.out hsz ?_; intro v' w9 ho1 ho2 ho3 hg1; have HO1 := Lib.hid ho1; have HB1 := Lib.hid ho2; have HB2 := Lib.hid ho3; have HG1 := Lib.hid hg1; clear ho1 ho2 ho3 hg1))
        go_roundw
        case rel => exact ⟨j + 1, by omega, by go_num, by rw [HX.out]; exact HO1.out, fun g hgg => (HB2.out g hgg).elim (hf.out g) (fun hh => .inr (by omega)), hK.out.keep HB1.out (fun x _ hx hv => by have := hf.out x hv; simp only [New] at hx; omega), Chg.new hg.out HG1.out (fun i hi => by omega), Nat.le_trans hsz2 HG1.out.size⟩
        case measure => simp [intOf]; omega
      · have hd : (r.xs[j] == 3) = false := by simpa using h3
        have HX := Lib.hid (show newL 0 (r.xs.take (j + 1)) = newL 0 (r.xs.take j) by rw [HT.out, if_neg h3, List.append_nil])
        clear h3
        go_wp2
        go_roundw
        case rel => exact ⟨j + 1, by omega, by go_num, by rw [HX.out]; exact ho, hf, hK, hg, hsz2⟩
        case measure => simp [intOf]; omega
    · obtain rfl : j = r.xs.length := by omega
      have hjl : ¬ ((r.xs.length : Int) < (listsM madeK 0 r.xs).length) := by rw [HLM.out]; omega
      have HX := Lib.hid (show newL 0 (r.xs.take r.xs.length) = newL 0 r.xs by rw [List.take_length])
      go_wp2
      go_ret2
      exact ⟨_, ret_mi HZ.out.symm, by rw [HO.out, ← HX.out]; exact ho.out.ints.mono (fun b _ hb => ⟨by have := hb.1; have := UA.out.size; omega, hb.2⟩), Chg.trans UA.out hg.out⟩
end Go.Proofs.Ytnjfhpgmogopnaa
