/- The program's blocks of events. No condition. -/
import Derived.Test.YtplabnjdhkmmkaaPF13
import Derived.Deep.RegionHeld3
set_option maxRecDepth 100000
set_option maxHeartbeats 4000000
set_option linter.unusedSimpArgs false
set_option linter.unusedVariables false
namespace Go.Proofs.Ytplabnjdhkmmkaa
open Go.ChangeShapes Go.WideShapes Go.ChangeAt Go.RowKit
/-- what the blocks answer -/
def BlkRes (w w' : World) (e : Ending) : Option (List BlkM) → Prop
  | none => e = .returned (.tuple #[.slice none 0 0, .int .i64 5])
  | some bs => ∃ v cs q Q, e = .returned (.tuple #[v, .int .i64 0]) ∧ BCore w' w.heap.size v bs cs q Q
/-- one event more, at a step of a region that draws its order -/
theorem step_append1EvsB {w : World} {ops : Array Oper} {o : Oper} {a : Act} {K : Act → World → Prop} {E : Prop} {Q : Exit → Act → World → Prop} (hgd : o.guard = none) (s x : Operand)
    (ho : o.op = .call { callee := .builtin .append, args := #[s, x], argTypes := #[40, 40] })
    (base : Nat) (v : Value) (xs : List EvM) (hs : a.eval s = v) (hown : OwnEvs w base v xs)
    (g : Nat) (y : EvM) (hx : a.eval x = .slice (some ⟨g, 0, none⟩) 1 1) (hh : w.heap[g]? = some (.cells y.cells.toArray 92 (0, 0))) (hy : y.ok) (hlen : xs.length ≤ 1000000) (hbase : base ≤ w.heap.size)
    (h : ∀ v' w', OwnEvs w' base v' (xs ++ [y]) → Chg (fun b => v.ownBlock = some b) w w' → (∀ b, v'.ownBlock = some b → v.ownBlock = some b ∨ w.heap.size ≤ b) → K (a.put o.dst v') w') :
    if Region.wanted o (yielded ops a.tmps) = true then Oper.wp Try.prog o a w K Q else E := by
  have hw : Region.wanted o (yielded ops a.tmps) = true := by simp [Region.wanted, hgd]
  rw [if_pos hw]
  obtain ⟨i0, hi, hz0, hz1, hz2⟩ := info_parts infoEvs
  have hnews : ∀ j q, y.cells[j]? = some q → w.cell? ((⟨g, 0, none⟩ : Addr).add j) = some q := fun j q hq => by
    have h1 := (Raw.of_block (S := fun _ => True) (k := 6) (n := 1) (c := 1) hh rfl trivial (by simp [EvM.cells_length]) (by omega) (by omega) : Raw w _ 6 _ 1 y.cells)
    obtain ⟨-, A, c, he, -, -, hr, -⟩ := h1
    obtain ⟨b, oo, h2, -, -, hc⟩ := hr (by omega)
    injection he with e1 _ _
    rw [← e1] at h2
    injection h2 with h2
    injection h2 with e2 e3 _
    subst e2; subst e3
    obtain ⟨hj, e⟩ := List.getElem?_eq_some_iff.1 hq
    have := (hc j hj).1
    rw [e] at this
    rw [← this]
    unfold Addr.add
    by_cases h0 : j = 0 <;> simp [h0]
  refine wp_app_own2 (P := Try.prog) s x 40 ho base 92 i0 _ 6 48 Try.underlying40 hi hz0 hz1 hz2 rfl (by decide) v xs.length _ hs hown.1 ⟨g, 0, none⟩ 1 1 y.cells hx (by simp [EvM.cells_length]) hnews (cells_oneEvs y) (by unfold Go.maxLen; omega) (by omega) hbase (fun v' w' h2 h3 h4 => ?_)
  exact h v' w' ⟨by simpa using h2, fun e he => (List.mem_append.1 he).elim (hown.2 e) (fun he => by rw [List.mem_singleton.1 he]; exact hy)⟩ (Chg.of_grown h3) h4
theorem addLast_set {bs : List BlkM} {i : Nat} (h : bs.length = i + 1) (e : EvM) : bs.set i ⟨(bs[i]'(by omega)).n, (bs[i]'(by omega)).word, (bs[i]'(by omega)).st ++ [e]⟩ = addLast bs e := by
  have hi : bs.length - 1 = i := by omega
  unfold addLast
  rw [dif_pos (by omega)]
  subst hi
  rfl
/-- block i, by name -/
theorem BCore.at2 {w : World} {base : Nat} {v : Value} {bs : List BlkM} {cs : List Value} {q : Nat → Option Nat} {P : Nat → Prop} (h : BCore w base v bs cs q P) {i : Nat} (hi : i < bs.length) : ∃ (fb : BlkM) (g c : Nat) (A : Option Addr) (k : Nat), fb = bs[i] ∧ v = .slice (some ⟨g, 0, none⟩) bs.length c ∧ (base ≤ g ∧ g < w.heap.size) ∧ w.cell? ⟨g, i * 3 + 2, none⟩ = some (.slice A fb.st.length k) ∧ w.frozen? ⟨g, i * 3 + 2, none⟩ = false ∧ OwnEvs w base (.slice A fb.st.length k) fb.st ∧ (Value.slice A fb.st.length k).ownBlock = q i := by
  obtain ⟨g, c, A, k, vs, h1, h2, -, -, -, h3, -, h4, h5⟩ := h.at_ hi
  obtain ⟨As, ks, rfl, -⟩ := h4.val
  exact ⟨bs[i], g, c, As, ks, rfl, h1, h2, h3.1, h3.2, h4, h5⟩
theorem addLast_st {bs : List BlkM} {e : EvM} {j : Nat} (h : ∀ b ∈ bs, b.st.length ≤ j) : ∀ b ∈ addLast bs e, b.st.length ≤ j + 1 := by
  intro b hb
  unfold addLast at hb
  split at hb
  · rcases List.mem_or_eq_of_mem_set hb with h1 | h1
    · exact Nat.le_succ_of_le (h b h1)
    · subst h1
      have := h _ (List.getElem_mem (by omega : bs.length - 1 < bs.length))
      simp; omega
  · exact Nat.le_succ_of_le (h b hb)
theorem OwnI.lit (w : World) (base : Nat) (hb : base ≤ w.heap.size) (a : Int) (ha : I64 a) : OwnI (w.alloc (.cells #[.int .i64 a] 2)) base (.slice (some ⟨w.heap.size, 0, none⟩) 1 1) [a] :=
  ⟨World.ownsRow_lit w #[.int .i64 a] 1 hb (by unfold Go.maxLen; omega) rfl, by simpa using ha⟩
theorem blocks_any (w : World) (S : Nat → Prop) (vx : Value) (xs : List EvM) (m : Int) (h : Evs w S vx xs) (hS : ∀ b, S b → b < w.heap.size) (hv : stM xs 0 = some m) (hl : xs.length ≤ 100000) :
    Calls Try.prog 78 #[vx] w fun e w' => BlkRes w w' e (blkR xs 0 [] [⟨0, [], []⟩]) ∧ Up w w' := by
  obtain ⟨Ax, cx, rfl, -, -, -⟩ := h.shape
  have H := Lib.hid h
  have HS := Lib.hid hS
  have HV := Lib.hid hv
  obtain ⟨B, hB⟩ : ∃ x, x = blkR xs 0 [] [⟨0, [], []⟩] := ⟨_, rfl⟩
  rw [← hB]
  have HB := Lib.hid hB
  clear h hS hv hB
  go_enter Try.func78, Try.ntmps78
  go_wp2_with fail
  have HC0 := Lib.hid ((BCore.lit w w.heap.size (Nat.le_refl _)).up ((Chg.refl Nowhere (w.alloc (.cells #[.int .i64 0, .slice none 0 0, .slice none 0 0] 98))).alloc (.cells #[] 2)))
  have HO0 := Lib.hid (show OwnI ((w.alloc (.cells #[.int .i64 0, .slice none 0 0, .slice none 0 0] 98)).alloc (.cells #[] 2)) w.heap.size (.slice (some ⟨w.heap.size + 1, 0, none⟩) 0 0) [] from by have h := OwnI.made (w.alloc (.cells #[.int .i64 0, .slice none 0 0, .slice none 0 0] 98)) w.heap.size (by simp); simpa using h)
  go_loopw [4, 5, 6, 7] (fun v sn wv i wr => ∃ (j : Nat) (n : Int) (word : List Int) (bs : List BlkM) (cs : List Value) (q : Nat → Option Nat) (Q : Nat → Prop), i = .int .i64 (j : Int) ∧ sn = .int .i64 n ∧ Hid (BCore wr w.heap.size v bs cs q Q) ∧ Hid (OwnI wr w.heap.size wv word) ∧ Hid (∀ b, wv.ownBlock = some b → ¬ BK v bs.length q Q b) ∧ Hid (Chg (fun b => w.heap.size ≤ b) w wr) ∧ Hid (1 ≤ bs.length ∧ bs.length ≤ 60) ∧ Hid (∀ b ∈ bs, b.st.length ≤ j) ∧ Hid (j ≤ xs.length + 1) ∧ Hid ((j ≤ xs.length ∧ blkR (xs.drop j) n word bs = B ∧ stM (xs.take j) 0 = some n ∧ (0 ≤ n ∧ n ≤ 12) ∧ LettN n.toNat word ∧ word.length ≤ j) ∨ (j = xs.length + 1 ∧ B = some bs))) (fun _ _ _ i _ => xs.length + 1 - (intOf i).toNat)
  case atStart => exact ⟨0, 0, [], _, _, _, _, rfl, rfl, HC0, HO0, Lib.hid (fun b e hb => by injection e with e; have e : w.heap.size + 1 = b := e; exact hb.elim (fun hb => by injection hb with hb; have hb : w.heap.size = b := hb; omega) (fun hb => hb.elim id (fun ⟨i, _, hb⟩ => by cases hb))), Lib.hid (((Chg.refl _ _).alloc _).alloc _), Lib.hid ⟨Nat.le_refl _, by simp⟩, Lib.hid (fun b hb => by rw [List.mem_singleton.1 hb]; exact Nat.zero_le _), Lib.hid (by omega), Lib.hid (.inl ⟨by omega, by rw [List.drop_zero]; exact HB.out.symm, rfl, by omega, fun x hx => by simp at hx, by simp⟩)⟩
  case round =>
    obtain ⟨j, n, word, bs, cs, q, Q, rfl, rfl, hc, ho, hb, hg, hlen, hstj, hjb, hf⟩ := hrel
    have hstl := Lib.hid (show ∀ b ∈ bs, b.st.length ≤ 1000000 from fun b h => by have := hstj.out b h; have := hjb.out; omega)
    obtain ⟨Av, cv, hv, -, -, -⟩ := hc.out.val
    subst hv
    obtain ⟨Aw, cw, hw, -, -, -⟩ := ho.out.ints.shape
    subst hw
    have HE := Lib.hid (H.out.keep hg.out (fun b _ hs => by have := HS.out b hs; show ¬ w.heap.size ≤ b; omega))
    have HUP := Lib.hid (show Up w wr from Chg.new (Chg.refl _ _) hg.out (fun i hi e => by have e : w.heap.size ≤ i := e; omega))
    by_cases hj : j ≤ xs.length
    rotate_left
    · have HD := Lib.hid (show j = xs.length + 1 ∧ B = some bs from hf.out.resolve_left (fun e => hj e.1))
      obtain rfl : j = xs.length + 1 := HD.out.1
      have hdd : decide (((xs.length + 1 : Nat) : Int) ≤ (xs.length : Int)) = false := decide_eq_false (by omega)
      go_wp2
      go_ret2
      exact ⟨by rw [HD.out.2]; exact ⟨_, _, _, _, rfl, hc.out⟩, HUP.out⟩
    have HF := Lib.hid (hf.out.resolve_right (fun e => by omega))
    have hjd : decide ((j : Int) ≤ (xs.length : Int)) = true := decide_eq_true (by omega)
    obtain ⟨hn0, hn1⟩ := HF.out.2.2.2.1
    by_cases hcr : ∃ h : j < xs.length, xs[j].kind = 1
    · obtain ⟨hlt, hk⟩ := hcr
      obtain ⟨b1, o1, c1, hx1, hs1, -, hcells⟩ := HE.out.at_ hlt
      have f0 := (hcells 0 _ rfl).1
      have f1 := (hcells 1 _ rfl).1
      have f2 := (hcells 2 _ rfl).1
      rw [Nat.add_zero] at f0
      obtain ⟨e1, e2, e3⟩ := stM_at HV.out hlt HF.out.2.2.1
      obtain ⟨⟨l1, l2⟩, l3, l4, l5⟩ := evLet_ok e1 hk ⟨hn0, hn1⟩
      have HRC := Lib.hid (blkR_cross (n := n) (word := word) (bs := bs) hlt hk)
      rw [evAfter_cross hk] at e3
      obtain ⟨x, hxe⟩ : ∃ x, x = xs[j] := ⟨_, rfl⟩
      rw [← hxe] at f0 f1 f2 hk l1 l2 l3 l4 l5 HRC
      rw [hk] at f0
      have HX1 := Lib.hid hx1
      injection hx1 with hA hL hC
      obtain rfl := hA
      have HSN := Lib.hid e3
      have HLX := Lib.hid (And.intro l1 l2)
      have wp1 : IntKind.i64.wrap (x.place + 1) = x.place + 1 := IntWalk.i64_in _ (by omega)
      have wm : IntKind.i64.wrap (x.count * (x.place + 1)) = evLet x := by show _ = x.count * (x.place + 1); exact IntWalk.i64_in _ (by rcases l3 with e | e <;> rw [e] <;> omega)
      have HIL := Lib.hid (show I64 (evLet x) by unfold I64; omega)
      have HWL := Lib.hid (show word.length ≤ 1099511627776 by have := HF.out.2.2.2.2.2; omega)
      have hjl : (j : Int) < (xs.length : Int) := by omega
      have hj0 : (0 : Int) ≤ (j : Int) := by omega
      have hjt : decide ((j : Int) < (xs.length : Int)) = true := decide_eq_true hjl
      clear e1 e2 e3 l1 l2 l3 l4 l5 hxe HX1 hL hC hcells hs1
      go_wp2
      have HWB := Lib.hid (show w.heap.size ≤ wr.heap.size from hg.out.size)
      have HWL1 := Lib.hid (show word.length + [evLet x].length ≤ 1099511627776 by have := HF.out.2.2.2.2.2; simp; omega)
      go_region_law (refine step_appInts rfl (.tmp 30) (.tmp 43) rfl w.heap.size (.slice Aw word.length cw) word (by simp [Act.eval, Act.put]) (ho.out.up (by repeat (first | exact Chg.refl _ _ | apply Chg.drew | apply Chg.drewN | refine Chg.alloc ?_ _))) _ (.slice (some ⟨wr.heap.size, 0, none⟩) 1 1) [evLet x] (by simp [Act.eval, Act.put]) (OwnI.lit _ w.heap.size HWB.out _ HIL.out).ints HWL1.out (by have := HWB.out; simp; omega) ?_; intro v' w' h1 h2 h3 h4; have HO := Lib.hid h1; have HCg := Lib.hid (show Chg (fun b => (Value.slice Aw word.length cw).ownBlock = some b) wr w' from Chg.trans (by repeat (first | exact Chg.refl _ _ | apply Chg.drew | apply Chg.drewN | refine Chg.alloc ?_ _)) h2); have HOB := Lib.hid (show ∀ b, v'.ownBlock = some b → (Value.slice Aw word.length cw).ownBlock = some b ∨ wr.heap.size ≤ b from fun b e => (h3 b e).imp id (fun h => by simp at h; omega)); clear h1 h2 h3 h4)
      all_goals
        have HC1 := Lib.hid (hc.out.keep HCg.out (fun b _ hk e => hb.out b e hk))
        have HB1 := Lib.hid (show ∀ b, v'.ownBlock = some b → ¬ BK (.slice Av bs.length cv) bs.length q Q b from fun b e hk => (HOB.out b e).elim (fun e => hb.out b e hk) (fun h => by have := (hc.out.lt hk).2; omega))
        have HG1 := Lib.hid (show Chg (fun b => w.heap.size ≤ b) w w' from Chg.trans hg.out (HCg.out.mono (fun b _ e => (ho.out.lt e).1)))
        have HF1 := Lib.hid (show j + 1 ≤ xs.length ∧ blkR (xs.drop (j + 1)) n (word ++ [evLet x]) bs = B ∧ stM (xs.take (j + 1)) 0 = some n ∧ (0 ≤ n ∧ n ≤ 12) ∧ LettN n.toNat (word ++ [evLet x]) ∧ (word ++ [evLet x]).length ≤ j + 1 from ⟨hlt, by rw [← HRC.out]; exact HF.out.2.1, HSN.out, ⟨hn0, hn1⟩, fun y hy => (List.mem_append.1 hy).elim (HF.out.2.2.2.2.1 y) (fun hy => by rw [List.mem_singleton.1 hy]; exact HLX.out), by have := HF.out.2.2.2.2.2; simp; omega⟩)
        go_wp2
        go_roundw
        case rel => exact ⟨j + 1, n, word ++ [evLet x], bs, cs, q, Q, by go_num, rfl, HC1, HO, HB1, HG1, hlen, Lib.hid (fun b h => Nat.le_succ_of_le (hstj.out b h)), Lib.hid (by omega), Lib.hid (.inl HF1.out)⟩
        case measure => first | (simp [intOf]; done) | (simp [intOf]; omega)
    have HAF := Lib.hid (show atFlush xs j from (Nat.lt_or_ge j xs.length).elim (fun h => .inr ⟨h, fun e => hcr ⟨h, e⟩⟩) (fun h => .inl (by omega)))
    have hjs : j = xs.length ∨ j < xs.length := by omega
    go_upto_region 7 with fail
    go_cut [29] (fun b wx => b = .bool false ∧ wr = wx)
    case first =>
      by_cases hjl : j < xs.length
      · have hk : xs[j].kind ≠ 1 := fun e => hcr ⟨hjl, e⟩
        obtain ⟨b1, o1, c1, hx1, -, -, hcells⟩ := HE.out.at_ hjl
        have f0 := (hcells 0 _ rfl).1
        rw [Nat.add_zero] at f0
        obtain ⟨kd, hkd⟩ : ∃ x, x = xs[j].kind := ⟨_, rfl⟩
        rw [← hkd] at f0 hk
        injection hx1 with hA hL hC
        obtain rfl := hA
        have hk2 : (kd == 1) = false := by simpa using hk
        have hd : decide ((j : Int) < (xs.length : Int)) = true := decide_eq_true (by omega)
        have hjl2 : (j : Int) < (xs.length : Int) := by omega
        have hj0 : (0 : Int) ≤ (j : Int) := by omega
        clear hL hC hcells hkd
        go_wp2_with fail
        go_meet
        exact ⟨rfl, rfl⟩
      · have hd : decide ((j : Int) < (xs.length : Int)) = false := decide_eq_false (by omega)
        go_wp2_with fail
        go_meet
        exact ⟨rfl, rfl⟩
    case rest =>
      obtain ⟨rfl, hww⟩ := hcut
      subst hww
      obtain ⟨nn, rfl⟩ : ∃ nn : Nat, n = (nn : Int) := ⟨n.toNat, by omega⟩
      have HLN := Lib.hid (show LettN nn word by have := HF.out.2.2.2.2.1; rwa [Int.toNat_natCast] at this)
      have hn12 : nn ≤ 12 := by omega
      have HWL := Lib.hid (show word.length ≤ 100000 by have := HF.out.2.2.2.2.2; omega)
      go_wp2_with fail
      refine (reduced_any _ _ _ word (ho.out.ints.up (by repeat (first | exact Chg.refl _ _ | apply Chg.drew | apply Chg.drewN | refine Chg.alloc ?_ _))) HWL.out (fun x hx => by have := HLN.out x hx; omega)).mono ?_
      rintro e w1 ⟨v1, rfl, k1, g1⟩
      obtain ⟨R, hR⟩ : ∃ x, x = redM word := ⟨_, rfl⟩
      rw [← hR] at k1
      have HR := Lib.hid hR
      have HLR := Lib.hid (show LettN nn R by rw [hR]; exact HLN.out.red)
      have HRL := Lib.hid (show R.length ≤ 100000 by have := redM_len word; rw [hR]; have := HWL.out; omega)
      obtain ⟨A1, c1, rfl, -, -, -⟩ := k1.shape
      have G1 := Lib.hid (show Up wr w1 from Chg.trans (by repeat (first | exact Chg.refl _ _ | apply Chg.drew | apply Chg.drewN | refine Chg.alloc ?_ _)) g1)
      have K1 := Lib.hid (show Ints w1 (fun b => wr.heap.size ≤ b ∧ b < w1.heap.size) (.slice A1 R.length c1) R from k1.mono (fun b _ h => ⟨by have := h.1; simpa using this, h.2⟩))
      have HBN := Lib.hid HF.out.2.1
      clear k1 g1 hR
      by_cases h40 : 40 < R.length
      · have hgt : decide ((R.length : Int) > 40) = true := decide_eq_true (by omega)
        go_wp2
        go_ret2
        exact ⟨by rw [← HBN.out, blkR_big HAF.out (by rw [← HR.out]; exact h40)]; rfl, Chg.trans HUP.out G1.out⟩
      have hgt : decide ((R.length : Int) > 40) = false := decide_eq_false (by omega)
      have H40 := Lib.hid h40
      clear h40
      go_upto_region 12 with fail
      go_cut [58] (fun b wx => b = .bool (!trivB nn R) ∧ Hid (Up w1 wx))
      case first =>
        by_cases hz : R.length = 0
        · have HT := Lib.hid (show trivB nn R = true by rw [List.eq_nil_of_length_eq_zero hz]; exact trivB_nil _)
          have hg0 : decide ((R.length : Int) > 0) = false := decide_eq_false (by omega)
          go_wp2_with fail
          go_meet
          exact ⟨by rw [HT.out]; rfl, Lib.hid (by repeat (first | exact Chg.refl _ _ | apply Chg.drew | apply Chg.drewN | refine Chg.alloc ?_ _))⟩
        have hg0 : decide ((R.length : Int) > 0) = true := decide_eq_true (by omega)
        have hzp : 0 < R.length := by omega
        clear hz
        go_wp2_with fail
        refine (equalWordsNil_any _ _ _ nn R (K1.out.up (by repeat (first | exact Chg.refl _ _ | apply Chg.drew | apply Chg.drewN | refine Chg.alloc ?_ _))) (fun b h => Nat.lt_of_lt_of_le h.2 (Chg.size (S := Nowhere) (by repeat (first | exact Chg.refl _ _ | apply Chg.drew | apply Chg.drewN | refine Chg.alloc ?_ _)))) HLR.out hn12 HRL.out).mono ?_
        rintro e w2 ⟨rfl, g2⟩
        have G2 := Lib.hid (show Up w1 w2 from Chg.trans (by repeat (first | exact Chg.refl _ _ | apply Chg.drew | apply Chg.drewN | refine Chg.alloc ?_ _)) g2)
        clear g2
        cases htr : trivB nn R with
        | true => (go_wp2_with fail; go_meet; exact ⟨by rw [htr]; rfl, G2⟩)
        | false => (go_wp2_with fail; go_meet; exact ⟨by rw [htr]; rfl, G2⟩)
      case rest =>
        obtain ⟨rfl, hu2⟩ := hcut
        cases htr : trivB nn R with
        | true =>
          obtain ⟨FB, hFBe⟩ : ∃ x, x = bs := ⟨_, rfl⟩
          have HFB := Lib.hid (show flushM (nn : Int) word bs = FB by rw [hFBe]; exact flushM_yes (by rw [Int.toNat_natCast, ← HR.out]; exact htr))
          have HC2 := Lib.hid (hc.out.up (Chg.trans G1.out hu2.out))
          have HG2 := Lib.hid (show Chg (fun b => w.heap.size ≤ b) w wc from Chg.trans hg.out (Chg.of_up (Chg.trans G1.out hu2.out)))
          have HL2 := hlen
          obtain ⟨cs2, hcs⟩ : ∃ x, x = cs := ⟨_, rfl⟩
          obtain ⟨q2, hq⟩ : ∃ x, x = q := ⟨_, rfl⟩
          obtain ⟨Q2, hQ⟩ : ∃ x, x = Q := ⟨_, rfl⟩
          rw [← hcs, ← hq, ← hQ] at HC2
          have HSTL := hstl
          have HSTJ := hstj
          rw [← hFBe] at HC2 HL2 HSTL HSTJ ⊢
          clear hFBe hcs hq hQ
          by_cases hjl : j < xs.length
          rotate_left
          · have hd : decide ((j : Int) < (xs.length : Int)) = false := decide_eq_false (by omega)
            have HJ := Lib.hid (show j = xs.length by omega)
            go_wp2
            go_roundw
            case rel => exact ⟨j + 1, (nn : Int), [], FB, cs2, q2, Q2, by go_num, rfl, HC2, Lib.hid (OwnI.nil _ _), Lib.hid (fun b e => by cases e), HG2, HL2, Lib.hid (fun b h => Nat.le_succ_of_le (HSTJ.out b h)), Lib.hid (by omega), Lib.hid (.inr ⟨by rw [HJ.out], by rw [← HBN.out, HJ.out, List.drop_length, blkR_end (by rw [← HR.out]; exact H40.out) (by rw [HFB.out]; exact HL2.out.2), HFB.out]⟩)⟩
            case measure => first | (simp [intOf]; done) | (simp [intOf]; omega)
          have hk : xs[j].kind ≠ 1 := fun e => hcr ⟨hjl, e⟩
          obtain ⟨e1, e2, e3⟩ := stM_at HV.out hjl HF.out.2.2.1
          have HST := Lib.hid (blkR_step (n := (nn : Int)) (word := word) (bs := bs) hjl hk (by rw [← HR.out]; exact H40.out))
          rw [HFB.out] at HST
          have HXO := Lib.hid (H.out.2 _ (List.getElem_mem hjl))
          have HEZ := Lib.hid (H.out.keep HG2.out (fun b _ hs => by have := HS.out b hs; show ¬ w.heap.size ≤ b; omega))
          obtain ⟨b1, o1, c1', hx1, hs1, -, hcells⟩ := HEZ.out.at_ hjl
          obtain ⟨x, hxe⟩ : ∃ x, x = xs[j] := ⟨_, rfl⟩
          rw [← hxe] at hk e1 e2 e3 HST HXO hcells
          have f0 := (hcells 0 _ rfl).1
          have f1 := (hcells 1 _ rfl).1
          have f2 := (hcells 2 _ rfl).1
          have f3 := (hcells 3 _ rfl).1
          have f4 := (hcells 4 _ rfl).1
          have f5 := (hcells 5 _ rfl).1
          rw [Nat.add_zero] at f0
          have HCE := Lib.hid hcells
          have HSB := Lib.hid (HS.out _ hs1)
          injection hx1 with hA hL hC
          obtain rfl := hA
          have HEO := Lib.hid e1
          have HN1 := Lib.hid (And.intro (evAfter_bd e1 ⟨hn0, hn1⟩) e2)
          have HSN := Lib.hid e3
          obtain ⟨i0, hi0⟩ : ∃ i0, FB.length = i0 + 1 := ⟨FB.length - 1, by have := HL2.out; omega⟩
          have hil : i0 < FB.length := by omega
          obtain ⟨fb, g, cg, As, ks, hfb, hvg, hgb, T2, Z2, o2, hq2⟩ := HC2.out.at2 hil
          injection hvg with hA2 hL2 hC2
          obtain rfl := hA2
          have HO2 := Lib.hid o2
          have HQ2 := Lib.hid hq2
          have HGB := Lib.hid hgb
          have HIL := Lib.hid hil
          have HI0 := Lib.hid hi0
          have HSL := Lib.hid (show fb.st.length ≤ 1000000 by rw [hfb]; exact HSTL.out _ (List.getElem_mem hil))
          have HFBE := Lib.hid hfb
          clear hfb
          have hd : decide ((j : Int) < (xs.length : Int)) = true := decide_eq_true (by omega)
          have hjlx : (j : Int) < (xs.length : Int) := by omega
          have hj0 : (0 : Int) ≤ (j : Int) := by omega
          have wq : IntKind.i64.wrap ((FB.length : Int) - 1) = (FB.length : Int) - 1 := IntWalk.i64_in _ (by have := HL2.out; omega)
          have hq0 : (0 : Int) ≤ (FB.length : Int) - 1 := by omega
          have hqn : ((FB.length : Int) - 1).toNat = i0 := by omega
          have hql : (FB.length : Int) - 1 < (FB.length : Int) := by omega
          clear e1 e2 e3 hxe hk hL hC hcells hs1 hgb o2 hq2 hL2 hC2 hi0
          go_wp2
          have T3 := Chg.cell ((Chg.refl Nowhere wc).alloc (.cells #[.int .i64 x.kind, .int .i64 x.place, .int .i64 x.count, .int .i64 x.bed, .int .i64 x.car, .int .i64 x.dir] 92)) T2 id
          have HWZ := Lib.hid (show w.heap.size ≤ wc.heap.size from HG2.out.size)
          have p0 := Chg.cell ((Chg.refl Nowhere wc).alloc (.cells #[.int .i64 x.kind, .int .i64 x.place, .int .i64 x.count, .int .i64 x.bed, .int .i64 x.car, .int .i64 x.dir] 92)) f0 id
          have p1 := Chg.cell ((Chg.refl Nowhere wc).alloc (.cells #[.int .i64 x.kind, .int .i64 x.place, .int .i64 x.count, .int .i64 x.bed, .int .i64 x.car, .int .i64 x.dir] 92)) f1 id
          have p2 := Chg.cell ((Chg.refl Nowhere wc).alloc (.cells #[.int .i64 x.kind, .int .i64 x.place, .int .i64 x.count, .int .i64 x.bed, .int .i64 x.car, .int .i64 x.dir] 92)) f2 id
          have p3 := Chg.cell ((Chg.refl Nowhere wc).alloc (.cells #[.int .i64 x.kind, .int .i64 x.place, .int .i64 x.count, .int .i64 x.bed, .int .i64 x.car, .int .i64 x.dir] 92)) f3 id
          have p4 := Chg.cell ((Chg.refl Nowhere wc).alloc (.cells #[.int .i64 x.kind, .int .i64 x.place, .int .i64 x.count, .int .i64 x.bed, .int .i64 x.car, .int .i64 x.dir] 92)) f4 id
          have p5 := Chg.cell ((Chg.refl Nowhere wc).alloc (.cells #[.int .i64 x.kind, .int .i64 x.place, .int .i64 x.count, .int .i64 x.bed, .int .i64 x.car, .int .i64 x.dir] 92)) f5 id
          go_region_law (refine step_append1EvsB rfl (.tmp 82) (.tmp 87) rfl w.heap.size (.slice As fb.st.length ks) fb.st (by simp [Act.eval, Act.put]) (HO2.out.up (by repeat (first | exact Chg.refl _ _ | apply Chg.drew | apply Chg.drewN | refine Chg.alloc ?_ _))) wc.heap.size x (by simp [Act.eval, Act.put]) (heap_alloc_new _ _) HXO.out HSL.out (by have := HWZ.out; simp; omega) ?_; intro v' w' h1 h2 h3; obtain ⟨s5, hs5⟩ : ∃ z, z = fb.st ++ [x] := ⟨_, rfl⟩; rw [← hs5] at h1; have HS5 := Lib.hid hs5; clear hs5; obtain ⟨A8, c8, rfl, -⟩ := h1.val; have HOV := Lib.hid h1; have HCV := Lib.hid (show Chg (fun b => q2 i0 = some b) wc w' from Chg.trans (by repeat (first | exact Chg.refl _ _ | apply Chg.drew | apply Chg.drewN | refine Chg.alloc ?_ _)) (h2.mono (fun b _ e => HQ2.out.symm.trans e))); have HBV := Lib.hid (show ∀ b, (Value.slice A8 s5.length c8).ownBlock = some b → q2 i0 = some b ∨ wc.heap.size ≤ b from fun b e => (h3 b e).imp (fun e => HQ2.out.symm.trans e) (fun h => by simp at h; omega)); obtain ⟨q1c, q1f⟩ := CellF.chg (show CellF wc ⟨g, i0 * 3 + 2, none⟩ _ from ⟨T2, Z2⟩) HCV.out (fun e => (HC2.out.qv i0 g HIL.out e).1 rfl); clear h1 h2 h3)
          all_goals
            have HP := Lib.hid (HC2.out.put HIL.out rfl HCV.out HOV.out HBV.out)
            have HAD := Lib.hid (show FB.set i0 ⟨(FB[i0]'HIL.out).n, (FB[i0]'HIL.out).word, s5⟩ = addLast FB x by rw [HS5.out, HFBE.out]; exact addLast_set HI0.out x)
            have CZ := Lib.hid (show Chg (fun b => w.heap.size ≤ b) wc (w'.setCell ⟨g, i0 * 3 + 2, none⟩ (.slice A8 s5.length c8)) from Chg.trans (HCV.out.mono (fun b _ e => (HC2.out.lt (.inr (.inr ⟨i0, HIL.out, e⟩))).1)) (HP.out.2.mono (fun b _ e => by have e : b = g := e; have := HGB.out; omega)))
            have NB : ¬ (w.heap.size ≤ b1) := by have := HSB.out; omega
            have g0 := Chg.cell CZ.out f0 NB
            have g1 := Chg.cell CZ.out f1 NB
            have g2 := Chg.cell CZ.out f2 NB
            have g3 := Chg.cell CZ.out f3 NB
            have g4 := Chg.cell CZ.out f4 NB
            have g5 := Chg.cell CZ.out f5 NB
            have HC5 := Lib.hid (show BCore (w'.setCell ⟨g, i0 * 3 + 2, none⟩ (.slice A8 s5.length c8)) w.heap.size (.slice (some ⟨g, 0, none⟩) FB.length cv) (addLast FB x) _ _ Q2 from HAD.out ▸ HP.out.1)
            clear NB
            go_wp2_with fail
            refine (evAfter_any _ x (nn : Int) ⟨hn0, hn1⟩ HEO.out).mono ?_
            rintro e w6 ⟨rfl, g6⟩
            have G6 := Lib.hid (show Up (w'.setCell ⟨g, i0 * 3 + 2, none⟩ (.slice A8 s5.length c8)) w6 from Chg.trans (by repeat (first | exact Chg.refl _ _ | apply Chg.drew | apply Chg.drewN | refine Chg.alloc ?_ _)) g6)
            clear g6
            obtain ⟨n2, hn2⟩ : ∃ z, z = evAfter x.kind x.count (nn : Int) := ⟨_, rfl⟩
            rw [← hn2] at HN1 HSN HST ⊢
            clear hn2
            go_wp2
            go_roundw
            case rel => exact ⟨j + 1, n2, [], addLast FB x, _, _, Q2, by go_num, rfl, Lib.hid (HC5.out.up G6.out), Lib.hid (OwnI.nil _ _), Lib.hid (fun b e => by cases e), Lib.hid (Chg.trans HG2.out (Chg.trans CZ.out (Chg.of_up G6.out))), Lib.hid (by rw [addLast_len]; exact HL2.out), Lib.hid (addLast_st HSTJ.out), Lib.hid (by omega), Lib.hid (.inl ⟨hjl, by rw [← HBN.out]; exact HST.out.symm, HSN.out, HN1.out, fun y hy => by simp at hy, by simp⟩)⟩
            case measure => first | (simp [intOf]; done) | (simp [intOf]; omega)
        | false =>
          have HFN := Lib.hid (show flushM (nn : Int) word bs = bs ++ [⟨(nn : Int), R, []⟩] by rw [HR.out]; exact flushM_no (by rw [Int.toNat_natCast, ← HR.out]; exact htr))
          by_cases h60 : bs.length = 60
          · have he : ((bs.length : Int) == 60) = true := by simp; omega
            have HF60 := Lib.hid (show 60 < (flushM (nn : Int) word bs).length by rw [HFN.out]; simp; omega)
            clear h60
            go_wp2
            go_ret2
            exact ⟨by rw [← HBN.out, blkR_many HAF.out HF60.out]; rfl, Chg.trans HUP.out (Chg.trans G1.out hu2.out)⟩
          have he : ((bs.length : Int) == 60) = false := by simp; omega
          have HB60 := Lib.hid (show bs.length + 1 ≤ 60 by have := hlen.out.2; omega)
          have HWZ0 := Lib.hid (show w.heap.size ≤ wr.heap.size ∧ wr.heap.size ≤ w1.heap.size ∧ w1.heap.size ≤ wc.heap.size from ⟨hg.out.size, G1.out.size, hu2.out.size⟩)
          have HUW := Lib.hid (show Up wr (wc.alloc (.cells #[.int .i64 (nn : Int), .slice A1 R.length c1, .slice none 0 0] 98)) from Chg.trans G1.out (Chg.trans hu2.out ((Chg.refl _ _).alloc _)))
          clear h60
          go_upto_region 16 with (at_builtin; refine wp_append_blk rfl _ _ rfl w.heap.size (.slice Av bs.length cv) bs cs q Q rfl (hc.out.up HUW.out) wc.heap.size (nn : Int) R A1 c1 rfl (by rw [cell_new]; rfl) (by rw [cell_new]; rfl) (by rw [cell_new]; rfl) (fun b => wr.heap.size ≤ b ∧ b < w1.heap.size) (K1.out.up (Chg.trans hu2.out ((Chg.refl _ _).alloc _))) (fun b hb => ⟨by have := HWZ0.out; omega, by have := HWZ0.out; simp; omega, fun hk => by have := (hc.out.lt hk).2; omega⟩) (by have := HB60.out; omega) (by have := HWZ0.out; simp; omega) ?_; intro vb wb cs2 q2 Q2 h1 h2 h3; obtain ⟨FB, hFB⟩ : ∃ z, z = bs ++ [⟨(nn : Int), R, []⟩] := ⟨_, rfl⟩; rw [← hFB] at h1; obtain ⟨Ab, cb, rfl, -⟩ := h1.val; have HFE := Lib.hid hFB; have HC2 := Lib.hid h1; have HG2 := Lib.hid (show Chg (fun b => w.heap.size ≤ b) w wb from Chg.trans hg.out (Chg.trans (Chg.of_up HUW.out) (h3.mono (fun b _ e => (hc.out.lt (.inl e)).1)))); clear hFB h1 h2 h3)
          have HFB := Lib.hid (HFN.out.trans HFE.out.symm)
          have HL2 := Lib.hid (show 1 ≤ FB.length ∧ FB.length ≤ 60 by rw [HFE.out, List.length_append]; have := HB60.out; simp; omega)
          have HSTJ := Lib.hid (show ∀ b ∈ FB, b.st.length ≤ j by rw [HFE.out]; exact fun b h => (List.mem_append.1 h).elim (hstj.out b) (fun h => by rw [List.mem_singleton.1 h]; exact Nat.zero_le _))
          have HSTL := Lib.hid (show ∀ b ∈ FB, b.st.length ≤ 1000000 from fun b h => by have := HSTJ.out b h; omega)
          clear HFE HFN
          by_cases hjl : j < xs.length
          rotate_left
          · have hd : decide ((j : Int) < (xs.length : Int)) = false := decide_eq_false (by omega)
            have HJ := Lib.hid (show j = xs.length by omega)
            go_wp2
            go_roundw
            case rel => exact ⟨j + 1, (nn : Int), [], FB, cs2, q2, Q2, by go_num, rfl, HC2, Lib.hid (OwnI.nil _ _), Lib.hid (fun b e => by cases e), HG2, HL2, Lib.hid (fun b h => Nat.le_succ_of_le (HSTJ.out b h)), Lib.hid (by omega), Lib.hid (.inr ⟨by rw [HJ.out], by rw [← HBN.out, HJ.out, List.drop_length, blkR_end (by rw [← HR.out]; exact H40.out) (by rw [HFB.out]; exact HL2.out.2), HFB.out]⟩)⟩
            case measure => first | (simp [intOf]; done) | (simp [intOf]; omega)
          have hk : xs[j].kind ≠ 1 := fun e => hcr ⟨hjl, e⟩
          obtain ⟨e1, e2, e3⟩ := stM_at HV.out hjl HF.out.2.2.1
          have HST := Lib.hid (blkR_step (n := (nn : Int)) (word := word) (bs := bs) hjl hk (by rw [← HR.out]; exact H40.out))
          rw [HFB.out] at HST
          have HXO := Lib.hid (H.out.2 _ (List.getElem_mem hjl))
          have HEZ := Lib.hid (H.out.keep HG2.out (fun b _ hs => by have := HS.out b hs; show ¬ w.heap.size ≤ b; omega))
          obtain ⟨b1, o1, c1', hx1, hs1, -, hcells⟩ := HEZ.out.at_ hjl
          obtain ⟨x, hxe⟩ : ∃ x, x = xs[j] := ⟨_, rfl⟩
          rw [← hxe] at hk e1 e2 e3 HST HXO hcells
          have f0 := (hcells 0 _ rfl).1
          have f1 := (hcells 1 _ rfl).1
          have f2 := (hcells 2 _ rfl).1
          have f3 := (hcells 3 _ rfl).1
          have f4 := (hcells 4 _ rfl).1
          have f5 := (hcells 5 _ rfl).1
          rw [Nat.add_zero] at f0
          have HCE := Lib.hid hcells
          have HSB := Lib.hid (HS.out _ hs1)
          injection hx1 with hA hL hC
          obtain rfl := hA
          have HEO := Lib.hid e1
          have HN1 := Lib.hid (And.intro (evAfter_bd e1 ⟨hn0, hn1⟩) e2)
          have HSN := Lib.hid e3
          obtain ⟨i0, hi0⟩ : ∃ i0, FB.length = i0 + 1 := ⟨FB.length - 1, by have := HL2.out; omega⟩
          have hil : i0 < FB.length := by omega
          obtain ⟨fb, g, cg, As, ks, hfb, hvg, hgb, T2, Z2, o2, hq2⟩ := HC2.out.at2 hil
          injection hvg with hA2 hL2 hC2
          obtain rfl := hA2
          have HO2 := Lib.hid o2
          have HQ2 := Lib.hid hq2
          have HGB := Lib.hid hgb
          have HIL := Lib.hid hil
          have HI0 := Lib.hid hi0
          have HSL := Lib.hid (show fb.st.length ≤ 1000000 by rw [hfb]; exact HSTL.out _ (List.getElem_mem hil))
          have HFBE := Lib.hid hfb
          clear hfb
          have hd : decide ((j : Int) < (xs.length : Int)) = true := decide_eq_true (by omega)
          have hjlx : (j : Int) < (xs.length : Int) := by omega
          have hj0 : (0 : Int) ≤ (j : Int) := by omega
          have wq : IntKind.i64.wrap ((FB.length : Int) - 1) = (FB.length : Int) - 1 := IntWalk.i64_in _ (by have := HL2.out; omega)
          have hq0 : (0 : Int) ≤ (FB.length : Int) - 1 := by omega
          have hqn : ((FB.length : Int) - 1).toNat = i0 := by omega
          have hql : (FB.length : Int) - 1 < (FB.length : Int) := by omega
          clear e1 e2 e3 hxe hk hL hC hcells hs1 hgb o2 hq2 hL2 hC2 hi0
          go_wp2
          have T3 := Chg.cell ((Chg.refl Nowhere wb).alloc (.cells #[.int .i64 x.kind, .int .i64 x.place, .int .i64 x.count, .int .i64 x.bed, .int .i64 x.car, .int .i64 x.dir] 92)) T2 id
          have HWZ := Lib.hid (show w.heap.size ≤ wb.heap.size from HG2.out.size)
          have p0 := Chg.cell ((Chg.refl Nowhere wb).alloc (.cells #[.int .i64 x.kind, .int .i64 x.place, .int .i64 x.count, .int .i64 x.bed, .int .i64 x.car, .int .i64 x.dir] 92)) f0 id
          have p1 := Chg.cell ((Chg.refl Nowhere wb).alloc (.cells #[.int .i64 x.kind, .int .i64 x.place, .int .i64 x.count, .int .i64 x.bed, .int .i64 x.car, .int .i64 x.dir] 92)) f1 id
          have p2 := Chg.cell ((Chg.refl Nowhere wb).alloc (.cells #[.int .i64 x.kind, .int .i64 x.place, .int .i64 x.count, .int .i64 x.bed, .int .i64 x.car, .int .i64 x.dir] 92)) f2 id
          have p3 := Chg.cell ((Chg.refl Nowhere wb).alloc (.cells #[.int .i64 x.kind, .int .i64 x.place, .int .i64 x.count, .int .i64 x.bed, .int .i64 x.car, .int .i64 x.dir] 92)) f3 id
          have p4 := Chg.cell ((Chg.refl Nowhere wb).alloc (.cells #[.int .i64 x.kind, .int .i64 x.place, .int .i64 x.count, .int .i64 x.bed, .int .i64 x.car, .int .i64 x.dir] 92)) f4 id
          have p5 := Chg.cell ((Chg.refl Nowhere wb).alloc (.cells #[.int .i64 x.kind, .int .i64 x.place, .int .i64 x.count, .int .i64 x.bed, .int .i64 x.car, .int .i64 x.dir] 92)) f5 id
          go_region_law (refine step_append1EvsB rfl (.tmp 82) (.tmp 87) rfl w.heap.size (.slice As fb.st.length ks) fb.st (by simp [Act.eval, Act.put]) (HO2.out.up (by repeat (first | exact Chg.refl _ _ | apply Chg.drew | apply Chg.drewN | refine Chg.alloc ?_ _))) wb.heap.size x (by simp [Act.eval, Act.put]) (heap_alloc_new _ _) HXO.out HSL.out (by have := HWZ.out; simp; omega) ?_; intro v' w' h1 h2 h3; obtain ⟨s5, hs5⟩ : ∃ z, z = fb.st ++ [x] := ⟨_, rfl⟩; rw [← hs5] at h1; have HS5 := Lib.hid hs5; clear hs5; obtain ⟨A8, c8, rfl, -⟩ := h1.val; have HOV := Lib.hid h1; have HCV := Lib.hid (show Chg (fun b => q2 i0 = some b) wb w' from Chg.trans (by repeat (first | exact Chg.refl _ _ | apply Chg.drew | apply Chg.drewN | refine Chg.alloc ?_ _)) (h2.mono (fun b _ e => HQ2.out.symm.trans e))); have HBV := Lib.hid (show ∀ b, (Value.slice A8 s5.length c8).ownBlock = some b → q2 i0 = some b ∨ wb.heap.size ≤ b from fun b e => (h3 b e).imp (fun e => HQ2.out.symm.trans e) (fun h => by simp at h; omega)); obtain ⟨q1c, q1f⟩ := CellF.chg (show CellF wb ⟨g, i0 * 3 + 2, none⟩ _ from ⟨T2, Z2⟩) HCV.out (fun e => (HC2.out.qv i0 g HIL.out e).1 rfl); clear h1 h2 h3)
          all_goals
            have HP := Lib.hid (HC2.out.put HIL.out rfl HCV.out HOV.out HBV.out)
            have HAD := Lib.hid (show FB.set i0 ⟨(FB[i0]'HIL.out).n, (FB[i0]'HIL.out).word, s5⟩ = addLast FB x by rw [HS5.out, HFBE.out]; exact addLast_set HI0.out x)
            have CZ := Lib.hid (show Chg (fun b => w.heap.size ≤ b) wb (w'.setCell ⟨g, i0 * 3 + 2, none⟩ (.slice A8 s5.length c8)) from Chg.trans (HCV.out.mono (fun b _ e => (HC2.out.lt (.inr (.inr ⟨i0, HIL.out, e⟩))).1)) (HP.out.2.mono (fun b _ e => by have e : b = g := e; have := HGB.out; omega)))
            have NB : ¬ (w.heap.size ≤ b1) := by have := HSB.out; omega
            have g0 := Chg.cell CZ.out f0 NB
            have g1 := Chg.cell CZ.out f1 NB
            have g2 := Chg.cell CZ.out f2 NB
            have g3 := Chg.cell CZ.out f3 NB
            have g4 := Chg.cell CZ.out f4 NB
            have g5 := Chg.cell CZ.out f5 NB
            have HC5 := Lib.hid (show BCore (w'.setCell ⟨g, i0 * 3 + 2, none⟩ (.slice A8 s5.length c8)) w.heap.size (.slice (some ⟨g, 0, none⟩) FB.length cb) (addLast FB x) _ _ Q2 from HAD.out ▸ HP.out.1)
            clear NB
            go_wp2_with fail
            refine (evAfter_any _ x (nn : Int) ⟨hn0, hn1⟩ HEO.out).mono ?_
            rintro e w6 ⟨rfl, g6⟩
            have G6 := Lib.hid (show Up (w'.setCell ⟨g, i0 * 3 + 2, none⟩ (.slice A8 s5.length c8)) w6 from Chg.trans (by repeat (first | exact Chg.refl _ _ | apply Chg.drew | apply Chg.drewN | refine Chg.alloc ?_ _)) g6)
            clear g6
            obtain ⟨n2, hn2⟩ : ∃ z, z = evAfter x.kind x.count (nn : Int) := ⟨_, rfl⟩
            rw [← hn2] at HN1 HSN HST ⊢
            clear hn2
            go_wp2
            go_roundw
            case rel => exact ⟨j + 1, n2, [], addLast FB x, _, _, Q2, by go_num, rfl, Lib.hid (HC5.out.up G6.out), Lib.hid (OwnI.nil _ _), Lib.hid (fun b e => by cases e), Lib.hid (Chg.trans HG2.out (Chg.trans CZ.out (Chg.of_up G6.out))), Lib.hid (by rw [addLast_len]; exact HL2.out), Lib.hid (addLast_st HSTJ.out), Lib.hid (by omega), Lib.hid (.inl ⟨hjl, by rw [← HBN.out]; exact HST.out.symm, HSN.out, HN1.out, fun y hy => by simp at hy, by simp⟩)⟩
            case measure => first | (simp [intOf]; done) | (simp [intOf]; omega)
end Go.Proofs.Ytplabnjdhkmmkaa
