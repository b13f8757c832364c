/- The program's operations of a row. No condition but room. -/
import Derived.Test.YtmimbnpcokfnlaaOrd
import Derived.Test.YtmimbnpcokfnlaaRow10
import Derived.Test.YtmimbnpcokfnlaaCols
import Derived.Test.YtmimbnpcokfnlaaStitch
import Derived.Test.YtmimbnpcokfnlaaCarry
namespace Go.Proofs.Ytmimbnpcokfnlaa
open Go.ChangeShapes Go.WideShapes Go.ChangeAt Go.RowKit
theorem wp_append_own2 {P : Program} {w : World} {o : Oper} {a : Act} {K : Act → World → Prop} {Q : Exit → Act → World → Prop} (s x : Operand) (t : TypeId)
    (ho : o.op = .call { callee := .builtin .append, args := #[s, x], argTypes := #[t, t] })
    (base : Nat) (e : TypeId) (i : TypeInfo) (z : Value) (size bytes : Nat) (ht : P.underlying t = some (.slice e)) (hi : P.info? e = some i) (hz : i.zero = some z)
    (hsize : i.size = size) (hby : i.bytes = bytes) (hzs : z.cells.size = size) (hsz : 0 < size)
    (v : Value) (n : Nat) (xs : List Value) (hs : a.eval s = v) (hown : w.ownsRow base e size v n xs)
    (ad : Addr) (m c : Nat) (news : List Value) (hx : a.eval x = .slice (some ad) m c) (hl : news.length = m * size) (hnews : ∀ j u, news[j]? = some u → w.cell? (ad.add j) = some u) (h1 : ∀ u ∈ news, u.oneCell' = true)
    (h63 : n + m ≤ maxLen) (hbytes : (n + m) * bytes ≤ 140737488355328) (hbase : base ≤ w.heap.size)
    (h : ∀ v' w', w'.ownsRow base e size v' (n + m) (xs ++ news) → w.grownBy w' v.ownBlock → (∀ g, v'.ownBlock = some g → v.ownBlock = some g ∨ w.heap.size ≤ g) → K (a.put o.dst v') w') : o.wp P a w K Q := by
  obtain ⟨v', w', hr, h2, h3, _⟩ := run_append_own (P := P) w base t o.type e i z size bytes ht hi hz hsize hby hzs hsz v n xs hown ad m c news hl hnews h1 h63 hbytes hbase
  have h5 := append_block (P := P) base t o.type e i z size bytes ht hi hz hsize hby hzs hsz v n xs hown ad m c news hl hnews h1 h63 hbytes hr
  unfold Oper.wp execOp
  simp only [ho, resolve, invoke, builtin, Sem.run_bind, Sem.run_pure, Result.andThen_ok, List.map_toArray, List.map_cons, List.map_nil, hs, hx, hr]
  exact h v' w' h2 h3 h5
set_option maxRecDepth 100000 in
/-- the same at a step of a region that draws its order -/
theorem step_appendOps2 {w : World} {ops : Array Oper} {o : Oper} {a : Act} {K : Act → World → Prop} {Q : Exit → Act → World → Prop} {E : Prop} (hgd : o.guard = none) (s x : Operand)
    (ho : o.op = .call { callee := .builtin .append, args := #[s, x], argTypes := #[36, 36] })
    (base : Nat) (v : Value) (xs : List OpM) (hs : a.eval s = v) (hown : OwnO w base v xs)
    (S : Nat → Prop) (u : Value) (ys : List OpM) (hx : a.eval x = u) (hsrc : Ops w S u ys) (hlen : xs.length + ys.length ≤ 1099511627776) (hbase : base ≤ w.heap.size)
    (h : ∀ v' w', OwnO w' base v' (xs ++ ys) → Chg (fun b => v.ownBlock = some b) w w' → (∀ b, v'.ownBlock = some b → v.ownBlock = some b ∨ w.heap.size ≤ b) → Chg (fun k => base ≤ k) w w' → K (a.put o.dst v') w') :
    if Region.wanted o (yielded ops a.tmps) = true then Oper.wp Try.prog o a w K Q else E := by
  have hw : Region.wanted o (yielded ops a.tmps) = true := by simp [Region.wanted, hgd]
  rw [if_pos hw]
  obtain ⟨i0, hi, hz0, hz1, hz2⟩ := info_parts infoOp
  obtain ⟨⟨hl, A, c, rfl, hlc, hcm, hr, hnn⟩, hok⟩ := hsrc
  have hok' : ∀ y ∈ xs ++ ys, y.ok := fun y hy => (List.mem_append.1 hy).elim (hown.2 y) (hok y)
  cases A with
  | none =>
    have hy : ys = [] := by
      rcases Nat.eq_zero_or_pos ys.length with h0 | h0
      · exact List.eq_nil_of_length_eq_zero h0
      · obtain ⟨b, oo, h1, _⟩ := hr h0
        cases h1
    subst hy
    obtain rfl := hnn rfl
    have hrun := run_append_owned_none (P := Try.prog) (w := w) base 36 o.type 109 i0 8 Try.underlying36 hi v xs.length _ hown.1
    have hK := h v w (by simpa using hown) (Chg.refl _ _) (fun b hb => .inl hb) (Chg.refl _ _)
    unfold Oper.wp
    simp [execOp, ho, resolve, invoke, builtin, hs, hx, hrun, Result.andThen]
    exact hK
  | some ad =>
    have hnews : ∀ j q, (ys.flatMap OpM.cells)[j]? = some q → w.cell? (ad.add j) = some q := by
      intro j q hq
      obtain ⟨hj, he⟩ := List.getElem?_eq_some_iff.1 hq
      have hp : 0 < ys.length := by
        rcases Nat.eq_zero_or_pos ys.length with h0 | h0
        · rw [List.eq_nil_of_length_eq_zero h0] at hj; simp at hj
        · exact h0
      obtain ⟨b, oo, h1, _, _, hc⟩ := hr hp
      injection h1 with h1
      subst h1
      have := (hc j hj).1
      rw [he] at this
      rw [← this]
      unfold Addr.add
      by_cases h0 : j = 0 <;> simp [h0]
    refine wp_append_own2 (P := Try.prog) s x 36 ho base 109 i0 _ 8 64 Try.underlying36 hi hz0 hz1 hz2 rfl (by decide) v xs.length _ hs hown.1 ad ys.length c (ys.flatMap OpM.cells) hx hl hnews ?_ ?_ ?_ hbase ?_
    · intro q hq
      obtain ⟨y, _, hy⟩ := List.mem_flatMap.1 hq
      exact cells_one y q hy
    · unfold Go.maxLen; omega
    · omega
    · intro v' w' h2 h3 h4
      exact h v' w' ⟨by simpa using h2, hok'⟩ (Chg.of_grown h3) h4 ((Chg.refl _ _).grown h3 fun k hk => .inl (hown.1.lt k hk).1)
set_option maxRecDepth 100000 in
set_option maxHeartbeats 4000000 in
theorem concatOps_own (w : World) (S1 S : Nat → Prop) (arg : Value) (vs : List Value) (yss : List (List OpM)) (hvl : vs.length = yss.length) (harg : Raw w S1 1 arg yss.length vs)
    (hys : ∀ (i : Nat) (u : Value) (y : List OpM), vs[i]? = some u → yss[i]? = some y → Ops w S u y) (hsum : sumLen yss yss.length ≤ 1073741824) :
    Calls Try.prog 188 #[arg] w fun e w' => ∃ v, e = .returned v ∧ OwnO w' w.heap.size v yss.flatten ∧ Up w w' := by
  obtain ⟨A, c, rfl, hlc, hcm, -⟩ := harg.shape
  have HA := Lib.hid harg
  have HY := Lib.hid hys
  have HM := Lib.hid hsum
  have HV := Lib.hid hvl
  clear harg hys hsum hvl
  go_enter Try.func188, Try.ntmps188
  go_wp2
  go_loop [3, 5, 11] (fun q _ i => ∃ j : Nat, j ≤ yss.length ∧ i = .int .i64 j ∧ q = .int .i64 (sumLen yss j)) (fun _ _ i => yss.length - (intOf i).toNat)
  case atStart => exact ⟨0, by omega, rfl, by simp [sumLen]⟩
  case round =>
    obtain ⟨j, hj, rfl, rfl⟩ := hrel
    by_cases hlt : j < yss.length
    · obtain ⟨h0, A', c', he, -, -, hr, -⟩ := HA.out
      obtain ⟨b, o, hAb, -, -, hc⟩ := hr (by omega)
      obtain ⟨rfl, rfl⟩ : A = A' ∧ c = c' := by simpa using he
      subst hAb
      have hcj := (hc j (by rw [HV.out]; exact hlt)).1
      obtain ⟨A1, c1, hv1, hl1, hc1, -⟩ := (HY.out j _ _ (List.getElem?_eq_getElem (by rw [HV.out]; exact hlt)) (List.getElem?_eq_getElem hlt)).shape
      rw [hv1] at hcj
      have hs1 := sumLen_succ yss j hlt
      have hs2 := sumLen_le yss (j + 1)
      have hs3 : (sumLen yss j : Int) + yss[j].length ≤ 1073741824 := by have := HM.out; omega
      have HS1 := Lib.hid hs1
      have hng : ¬ ((sumLen yss j : Int) + yss[j].length < 0) := by omega
      clear hc hr he h0 hv1 hs1 hs2
      go_wp2
      go_round
      case rel => exact ⟨j + 1, by omega, by go_num, by rw [HS1.out]; go_num⟩
      case measure => simp [intOf]; omega
    · obtain rfl : j = yss.length := by omega
      go_wp2_with fail
      refine (growOps_nil _ _ HM.out).mono ?_
      rintro e w1 ⟨v, rfl, k1, g1⟩
      have K1 := Lib.hid k1
      have G1 := Lib.hid g1
      clear k1 g1
      go_wp2
      go_loopw [6, 8, 27] (fun v _ i wr => ∃ j : Nat, j ≤ yss.length ∧ i = .int .i64 j ∧ Hid (OwnO wr w.heap.size v (yss.take j).flatten) ∧ Hid (Up w wr)) (fun _ _ i _ => yss.length - (intOf i).toNat)
      case atStart => exact ⟨0, by omega, rfl, by simpa [Hid] using K1.out, G1.out⟩
      case round =>
        obtain ⟨j, hj2, rfl, ho, hg⟩ := hrel
        by_cases hlt2 : j < yss.length
        · obtain ⟨h0, A', c', he, -, -, hr, -⟩ := HA.out.up hg.out
          obtain ⟨b, o, hAb, -, -, hc⟩ := hr (by omega)
          obtain ⟨rfl, rfl⟩ : A = A' ∧ c = c' := by simpa using he
          subst hAb
          have hcj := (hc j (by rw [HV.out]; exact hlt2)).1
          have hsrc := (HY.out j _ _ (List.getElem?_eq_getElem (by rw [HV.out]; exact hlt2)) (List.getElem?_eq_getElem hlt2)).up hg.out
          obtain ⟨A1, c1, hv1, hl1, hc1, -⟩ := hsrc.shape
          rw [hv1] at hcj hsrc
          have HSR := Lib.hid hsrc
          have HL := Lib.hid (show (yss.take j).flatten.length + yss[j].length ≤ 1099511627776 by
            rw [flat_take_length]
            have h1 := sumLen_succ yss j hlt2
            have h2 := sumLen_le yss (j + 1)
            have := HM.out
            omega)
          have hsz := hg.out.size
          clear hc hr he h0 hv1 hsrc
          go_wp2_with (first | (at_builtin; refine wp_append_ops rfl _ _ rfl w.heap.size _ (yss.take j).flatten rfl ho.out S _ yss[j] rfl HSR.out HL.out ?_ ?_; (first | omega | (simp; omega)); intro v' w3 ho1 _ hg1; have HO := Lib.hid ho1; have HG := Lib.hid hg1; clear ho1 hg1))
          go_roundw
          case rel => exact ⟨j + 1, by omega, by go_num, by rw [flat_take _ _ hlt2]; exact HO.out, Chg.new hg.out HG.out (fun i hi => by omega)⟩
          case measure => simp [intOf]; omega
        · obtain rfl : j = yss.length := by omega
          go_wp2
          go_ret
          refine ⟨_, rfl, ?_, hg.out⟩
          have := ho.out
          rwa [List.take_length] at this
theorem OwnO.lower {w : World} {base b2 : Nat} {v : Value} {xs : List OpM} (h : OwnO w base v xs) (hb : b2 ≤ base) : OwnO w b2 v xs := by
  obtain ⟨⟨h1, h2⟩, h3⟩ := h
  refine ⟨⟨h1, ?_⟩, h3⟩
  rcases h2 with h2 | ⟨g, cap, cur, rfl, hg, r⟩
  · exact .inl h2
  · exact .inr ⟨g, cap, cur, rfl, Nat.le_trans hb hg, r⟩
/-- slices of slices of which some are as they were -/
def SSPart (w : World) (S : Nat → Prop) (v : Value) (P : Nat → Prop) (xss : List (List Int)) : Prop :=
  ∃ (vs : List Value) (R : Nat → Prop) (Q : Nat → Nat → Prop), Raw w R 1 v xss.length vs ∧ (∀ b, R b → S b) ∧ (∀ i b, Q i b → S b ∧ ¬ R b) ∧ (∀ i j b, Q i b → Q j b → i = j) ∧
    ∀ i (h : i < xss.length), P i → ∃ u, vs[i]? = some u ∧ Ints w (Q i) u xss[i]
theorem SSPart.of {w : World} {S : Nat → Prop} {v : Value} {xss : List (List Int)} (h : IntSS w S v xss) (P : Nat → Prop) : SSPart w S v P xss := by
  obtain ⟨vs, R, Q, h1, h2, h3, h4, h5⟩ := h
  exact ⟨vs, R, Q, h1, h2, h3, h4, fun i hi _ => h5 i hi⟩
theorem SSPart.keep {S T : Nat → Prop} {w w' : World} {v : Value} {P : Nat → Prop} {xss : List (List Int)} (h : SSPart w S v P xss) (g : Chg T w w') (hd : ∀ b, b < w.heap.size → S b → ¬ T b) : SSPart w' S v P xss := by
  obtain ⟨vs, R, Q, h1, h2, h3, h4, h5⟩ := h
  exact ⟨vs, R, Q, h1.keep g (fun b hb hr => hd b hb (h2 b hr)), h2, h3, h4, fun i hi hp => by
    obtain ⟨u, hu, hk⟩ := h5 i hi hp
    exact ⟨u, hu, hk.keep g (fun b hb hq => hd b hb (h3 i b hq).1)⟩⟩
theorem SSPart.up {S : Nat → Prop} {w w' : World} {v : Value} {P : Nat → Prop} {xss : List (List Int)} (h : SSPart w S v P xss) (g : Up w w') : SSPart w' S v P xss := h.keep g fun _ _ _ h => h
theorem SSPart.less {S : Nat → Prop} {w : World} {v : Value} {P P' : Nat → Prop} {xss : List (List Int)} (h : SSPart w S v P xss) (hp : ∀ i, P' i → P i) : SSPart w S v P' xss := by
  obtain ⟨vs, R, Q, h1, h2, h3, h4, h5⟩ := h
  exact ⟨vs, R, Q, h1, h2, h3, h4, fun i hi hq => h5 i hi (hp i hq)⟩
theorem SSPart.at_ {S : Nat → Prop} {w : World} {v : Value} {P : Nat → Prop} {xss : List (List Int)} (h : SSPart w S v P xss) {j : Nat} (hj : j < xss.length) (hp : P j) : ∃ b o c A ci, ∃ Qj : Nat → Prop, v = .slice (some ⟨b, o, none⟩) xss.length c ∧ w.cell? ⟨b, o + j, none⟩ = some (.slice A xss[j].length ci) ∧ Ints w Qj (.slice A xss[j].length ci) xss[j] ∧ xss[j].length ≤ ci ∧ ci ≤ 9223372036854775807 ∧ (∀ x, Qj x → S x) ∧
    ∀ w', Chg Qj w w' → SSPart w' S v (fun i => P i ∧ i ≠ j) xss := by
  obtain ⟨vs, R, Q, h1, hR, hQ, hD, h5⟩ := h
  obtain ⟨h0, A, c, rfl, h2, h3, h4, _⟩ := h1
  obtain ⟨b, o, rfl, hs, hb, hc⟩ := h4 (by omega)
  obtain ⟨u, hu, hk⟩ := h5 j hj hp
  obtain ⟨Ai, ci, rfl, h6, h7, _⟩ := hk.shape
  obtain ⟨hlt, he⟩ := List.getElem?_eq_some_iff.1 hu
  refine ⟨b, o, c, Ai, ci, Q j, rfl, ?_, hk, h6, h7, fun x hx => (hQ j x hx).1, fun w' g => ?_⟩
  · rw [← he]
    exact (hc j hlt).1
  · refine ⟨vs, R, Q, ⟨h0, _, c, rfl, h2, h3, fun hp => ?_, by simp⟩, hR, hQ, hD, fun i hi hpi => ?_⟩
    · refine ⟨b, o, rfl, hs, Nat.lt_of_lt_of_le hb g.size, fun t ht => ?_⟩
      have hn : ¬ Q j b := fun hq => (hQ j b hq).2 hs
      exact ⟨g.cell (hc t ht).1 hn, (g.frozen (hc t ht).1 hn).trans (hc t ht).2⟩
    · obtain ⟨ui, hui, hki⟩ := h5 i hi hpi.1
      exact ⟨ui, hui, hki.keep g (fun x _ h1 h2 => hpi.2 (hD i j x h1 h2))⟩
/-- a stitch on a column: operations, and where the carrier is -/
def stepC (d car k : Int) (s : List OpM × Int) (c : Int) : List OpM × Int := if k = 7 then s else (s.1 ++ (carryM s.2 (2 * c + 1) d car ++ stitchM k (2 * c + 1) d car), 2 * c + 1 + (d + 1) / 2)
def ordI (d : Int) (n t : Nat) : Nat := if d = 1 then t else n - 1 - t
def colsOf (r : RowM) (j : Nat) : List Int := if r.d = 1 then countM (sumF madeK (r.xs.take j)) (madeK (ix r.xs j)) else (countM (sumF madeK (r.xs.take j)) (madeK (ix r.xs j))).reverse
def rowTo (r : RowM) (s : List OpM × Int) : Nat → List OpM × Int
  | 0 => s
  | t + 1 => (colsOf r (ordI r.d r.xs.length t)).foldl (stepC r.d r.c (ix r.xs (ordI r.d r.xs.length t))) (rowTo r s t)
theorem fold_take (f : List OpM × Int → Int → List OpM × Int) (s : List OpM × Int) {cs : List Int} {q : Nat} (h : q < cs.length) : (cs.take (q + 1)).foldl f s = f ((cs.take q).foldl f s) cs[q] := by
  rw [List.take_succ_eq_append_getElem h, List.foldl_append]
  rfl
theorem colsOf_length (r : RowM) (j : Nat) : (colsOf r j).length = (madeK (ix r.xs j)).toNat := by
  unfold colsOf; split <;> simp [countM]
theorem sumF_prefix {xs : List Int} {j : Nat} (h : j < xs.length) : 0 ≤ sumF madeK (xs.take j) ∧ sumF madeK (xs.take j) + madeK xs[j] ≤ sumF madeK xs := by
  have h1 := sumF_take madeK h
  have h2 := (trL_ok (xs.take j) 0 0).2.2.2
  have h3 := (trL_ok (xs.drop (j + 1)) 0 0).2.2.2
  have h4 : sumF madeK xs = sumF madeK (xs.take (j + 1)) + sumF madeK (xs.drop (j + 1)) := by rw [← sumF_append, List.take_append_drop]
  omega
theorem colsOf_in {r : RowM} {j : Nat} (hr : LaidRow r.d r.c r.xs) (h : j < r.xs.length) : ∀ c ∈ colsOf r j, 0 ≤ c ∧ c ≤ 7 := by
  have h1 := sumF_prefix h
  have h2 := hr.made
  have h3 : ∀ c ∈ countM (sumF madeK (r.xs.take j)) (madeK (ix r.xs j)), 0 ≤ c ∧ c ≤ 7 := fun c hc => by
    obtain ⟨i, hi, rfl⟩ := List.mem_map.1 hc
    have := List.mem_range.1 hi
    rw [ix_eq h] at this
    omega
  intro c hc
  unfold colsOf at hc
  split at hc
  · exact h3 c hc
  · exact h3 c (List.mem_reverse.1 hc)
theorem stepC_skip {d car k c : Int} (s : List OpM × Int) (h : k = 7) : stepC d car k s c = s := if_pos h
theorem stepC_go {d car k c : Int} (s : List OpM × Int) (h : ¬ k = 7) : stepC d car k s c = (s.1 ++ (carryM s.2 (2 * c + 1) d car ++ stitchM k (2 * c + 1) d car), 2 * c + 1 + (d + 1) / 2) := if_neg h
theorem carryM_len (a p d c : Int) : (carryM a p d c).length ≤ 1 := by unfold carryM; split <;> simp
theorem stitchM_len (k n d c : Int) : (stitchM k n d c).length ≤ 3 := by
  unfold stitchM
  repeat' split
  all_goals simp
theorem ordI_lt {d : Int} {n t : Nat} (h : t < n) : ordI d n t < n := by unfold ordI; split <;> omega
theorem ordI_val {d : Int} {n t : Nat} (h : t < n) (hl : t < (ordM d n).length) : (ordM d n)[t] = (ordI d n t : Nat) := by
  rw [ordM_get]
  unfold ordI
  split
  · rfl
  · omega
theorem ordI_ne {d : Int} {n s t : Nat} (h : t < n) (hs : s < n) (hne : s ≠ t) : ordI d n s ≠ ordI d n t := by unfold ordI; split <;> omega
end Go.Proofs.Ytmimbnpcokfnlaa
