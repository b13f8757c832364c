/- The program's LayoutWidth answers as the reference's, for every chart; what it is given stays as it was. No condition. -/
import Derived.Test.YtaopjpcclkkoiaaCB2
import Derived.Test.YtaopjpcclkkoiaaRep
import Derived.Test.YtaopjpcclkkoiaaStk6
import Derived.Test.YtaopjpcclkkoiaaRow3
import Derived.Test.YtaopjpcclkkoiaaOwnS
import Derived.Test.YtaopjpcclkkoiaaUpR
import Derived.Test.YtaopjpcclkkoiaaRowLaw
import Derived.Test.YtaopjpcclkkoiaaCopy
import Derived.Test.YtaopjpcclkkoiaaOpenS
namespace Go.Proofs.Ytaopjpcclkkoiaa
open Go.ChangeShapes Go.WideShapes Go.ChangeAt Go.RowKit
structure ChartM where
  n : Int
  rs : List RowM
/-- a slice of rows -/
def RowsV (w : World) (S : Nat → Prop) (v : Value) (rs : List RowM) : Prop :=
  ∃ A c, v = .slice A rs.length c ∧ rs.length ≤ c ∧ c ≤ 9223372036854775807 ∧ (0 < rs.length → ∃ b o, A = some ⟨b, o, none⟩ ∧ S b ∧ ∀ i (hi : i < rs.length), RowAt w S b (o + i * 3) rs[i]) ∧ (A = none → c = 0)
section
variable {S T : Nat → Prop} {w w' : World} {v : Value} {rs : List RowM}
theorem RowAt.lt {b o : Nat} {r : RowM} (h : RowAt w S b o r) : b < w.heap.size := by
  obtain ⟨A, c, h1, h2, h3, h4, h5, h6, h7, h8⟩ := h
  exact h8
theorem RowAt.mono {b o : Nat} {r : RowM} (h : RowAt w S b o r) (hs : ∀ b, b < w.heap.size → S b → T b) : RowAt w T b o r := by
  obtain ⟨A, c, h1, h2, h3, h4, h5, h6, h7, h8⟩ := h
  exact ⟨A, c, h1, h2, h3, h4.mono hs, h5, h6, h7, h8⟩
theorem RowsV.keep (h : RowsV w S v rs) (g : Chg T w w') (hd : ∀ b, b < w.heap.size → S b → ¬ T b) : RowsV w' S v rs := by
  obtain ⟨A, c, hv, h1, h2, h4, h5⟩ := h
  refine ⟨A, c, hv, h1, h2, fun hp => ?_, h5⟩
  obtain ⟨b, o, ha, hs, hc⟩ := h4 hp
  exact ⟨b, o, ha, hs, fun i hi => (hc i hi).keep g hd (hd b (hc i hi).lt hs)⟩
theorem RowsV.up (h : RowsV w S v rs) (g : Up w w') : RowsV w' S v rs := h.keep g fun _ _ _ h => h
theorem RowsV.mono (h : RowsV w S v rs) (hs : ∀ b, b < w.heap.size → S b → T b) : RowsV w T v rs := by
  obtain ⟨A, c, hv, h1, h2, h4, h5⟩ := h
  refine ⟨A, c, hv, h1, h2, fun hp => ?_, h5⟩
  obtain ⟨b, o, ha, hS, hc⟩ := h4 hp
  exact ⟨b, o, ha, hs b (hc 0 hp).lt hS, fun i hi => (hc i hi).mono hs⟩
theorem RowsV.shape (h : RowsV w S v rs) : ∃ A c, v = .slice A rs.length c ∧ rs.length ≤ c ∧ c ≤ 9223372036854775807 ∧ (A = none → c = 0) :=
  let ⟨A, c, h1, h2, h3, _, h4⟩ := h; ⟨A, c, h1, h2, h3, h4⟩
theorem RowsV.at_ {A : Option Addr} {c : Nat} (h : RowsV w S (.slice A rs.length c) rs) {i : Nat} (hi : i < rs.length) : ∃ b o, A = some ⟨b, o, none⟩ ∧ ∀ j (hj : j < rs.length), RowAt w S b (o + j * 3) rs[j] := by
  obtain ⟨A', c', he, h1, h2, h4, h5⟩ := h
  obtain ⟨rfl, rfl⟩ : A = A' ∧ c = c' := by simpa using he
  obtain ⟨b, o, ha, hS, hc⟩ := h4 (by omega)
  exact ⟨b, o, ha, hc⟩
end
/-- a chart by value -/
def ChartV (w : World) (S : Nat → Prop) (v : Value) (c : ChartM) : Prop := ∃ s, v = .agg #[.int .i64 c.n, s] ∧ RowsV w S s c.rs ∧ I64 c.n
theorem ChartV.shape {w : World} {S : Nat → Prop} {v : Value} {c : ChartM} (h : ChartV w S v c) : ∃ A k, v = .agg #[.int .i64 c.n, .slice A c.rs.length k] ∧ RowsV w S (.slice A c.rs.length k) c.rs ∧ c.rs.length ≤ k ∧ k ≤ 9223372036854775807 ∧ I64 c.n := by
  obtain ⟨s, h1, h2, h3⟩ := h
  obtain ⟨A, k, rfl, h4, h5, _⟩ := h2.shape
  exact ⟨A, k, h1, h2, h4, h5, h3⟩
/-- a chart behind a pointer -/
def ChartAt (w : World) (S : Nat → Prop) (b o : Nat) (c : ChartM) : Prop :=
  ∃ A k, w.cell? ⟨b, o, none⟩ = some (.int .i64 c.n) ∧ w.cell? ⟨b, o + 1, none⟩ = some (.slice A c.rs.length k) ∧ RowsV w S (.slice A c.rs.length k) c.rs ∧ c.rs.length ≤ k ∧ k ≤ 9223372036854775807 ∧ I64 c.n ∧ b < w.heap.size
theorem ChartAt.keep {S T : Nat → Prop} {w w' : World} {b o : Nat} {c : ChartM} (h : ChartAt w S b o c) (g : Chg T w w') (hd : ∀ b, b < w.heap.size → S b → ¬ T b) (hb : ¬ T b) : ChartAt w' S b o c := by
  obtain ⟨A, k, h1, h2, h3, h4, h5, h6, h7⟩ := h
  exact ⟨A, k, g.cell h1 hb, g.cell h2 hb, h3.keep g hd, h4, h5, h6, Nat.lt_of_lt_of_le h7 g.size⟩
theorem ChartAt.up {S : Nat → Prop} {w w' : World} {b o : Nat} {c : ChartM} (h : ChartAt w S b o c) (g : Up w w') : ChartAt w' S b o c := h.keep g (fun _ _ _ h => h) id
/-- the row at a place -/
def rowI (rs : List RowM) (i : Nat) : RowM := rs.getD i ⟨0, 0, []⟩
theorem rowI_eq {rs : List RowM} {i : Nat} (h : i < rs.length) : rowI rs i = rs[i] := by unfold rowI; simp [h]
/-- the stacks ahead of row j -/
def atS (n : Int) (rs : List RowM) : Nat → List Int
  | 0 => List.replicate n.toNat 1
  | j + 1 => saL (atS n rs j) (rowI rs j).xs
def okR (st : List Int) (r : RowM) : Bool := rowB r.d r.c r.xs && (decide (saC st r.xs = 0) && thinB r.d st r.xs)
def okC (n : Int) (rs : List RowM) (j : Nat) : Bool := (List.range j).all fun i => okR (atS n rs i) (rowI rs i)
def outC (n : Int) (rs : List RowM) (j : Nat) : List (List Int) := (List.range j).map fun i => atS n rs (i + 1)
theorem okC_succ (n : Int) (rs : List RowM) (j : Nat) : okC n rs (j + 1) = (okC n rs j && okR (atS n rs j) (rowI rs j)) := by
  unfold okC; rw [List.range_succ, List.all_append]; simp
theorem outC_succ (n : Int) (rs : List RowM) (j : Nat) : outC n rs (j + 1) = outC n rs j ++ [saL (atS n rs j) (rowI rs j).xs] := by
  unfold outC; rw [List.range_succ, List.map_append]; rfl
theorem outC_length (n : Int) (rs : List RowM) (j : Nat) : (outC n rs j).length = j := by simp [outC]
theorem okC_false {n : Int} {rs : List RowM} {j m : Nat} (hj : j < m) (h : okR (atS n rs j) (rowI rs j) = false) : okC n rs m = false := by
  unfold okC
  rw [Bool.eq_false_iff]
  intro hh
  rw [List.all_eq_true.1 hh j (by simpa using hj)] at h
  cases h
def sizeB (c : ChartM) : Bool := inB c.n 1 8 && inB c.rs.length 1 8
def chartB (c : ChartM) : Bool := sizeB c && okC c.n c.rs c.rs.length
def chartL (c : ChartM) : List (List Int) := if chartB c then outC c.n c.rs c.rs.length else []
theorem chart_no {c : ChartM} (h : sizeB c = false) : chartB c = false ∧ chartL c = [] := by
  have e : chartB c = false := by unfold chartB; rw [h]; rfl
  exact ⟨e, by unfold chartL; rw [e]; rfl⟩
theorem chart_bad {c : ChartM} {j : Nat} (hj : j < c.rs.length) (h : okR (atS c.n c.rs j) (rowI c.rs j) = false) : chartB c = false ∧ chartL c = [] := by
  have e : chartB c = false := by unfold chartB; rw [okC_false hj h, Bool.and_false]
  exact ⟨e, by unfold chartL; rw [e]; rfl⟩
theorem chart_yes {c : ChartM} (h : sizeB c = true) (h2 : okC c.n c.rs c.rs.length = true) : chartB c = true ∧ chartL c = outC c.n c.rs c.rs.length := by
  have e : chartB c = true := by unfold chartB; rw [h, h2]; rfl
  exact ⟨e, by unfold chartL; rw [e]; rfl⟩
set_option maxRecDepth 100000 in
/-- 'out = append(out, list)', where the list was made behind the row -/
theorem wp_append_ss2 {w : World} {ops : Array Oper} {rest : List Oper} {o : Oper} {a : Act} {Q : Exit → Act → World → Prop} (hgd : o.guard = none) (s x : Operand)
    (ho : o.op = .call { callee := .builtin .append, args := #[s, x], argTypes := #[42, 42] })
    (base : Nat) (wr : World) (v : Value) (xss : List (List Int)) (hs : a.eval s = v) (hown : OwnSS wr base v xss) (hup : Up wr w)
    (g : Nat) (u : Value) (ys : List Int) (hx : a.eval x = .slice (some ⟨g, 0, none⟩) 1 1) (hc : w.cell? ⟨g, 0, none⟩ = some u) (hu : Ints w (New wr.heap.size w.heap.size) u ys) (hlen : xss.length ≤ 1099511627) (hbase : base ≤ wr.heap.size)
    (h : ∀ v' w', OwnSS w' base v' (xss ++ [ys]) → Chg (fun k => base ≤ k ∧ k < wr.heap.size) w w' → wpList Try.prog ops Q rest (a.put o.dst v') w') : wpList Try.prog ops Q (o :: rest) a w := by
  obtain ⟨i0, hi, hz0, hz1, hz2⟩ := info_parts infoS
  obtain ⟨A, c, rfl, -⟩ := hu.shape
  obtain ⟨vs, q, h1, h2, h3, h4⟩ := hown
  have hsz := hup.size
  have h1' := ownsRow_kept h1 hup (fun _ _ h => h)
  refine wpList_append_own2 (P := Try.prog) hgd s x 42 ho base 36 i0 (.slice none 0 0) 1 24 Try.underlying42 hi hz0 hz1 hz2 rfl (by decide) v xss.length _ hs h1' ⟨g, 0, none⟩ 1 1 [.slice A ys.length c] hx rfl ?_ ?_ ?_ ?_ (by omega) ?_
  · intro j r hr
    cases j with
    | zero => simp only [List.getElem?_cons_zero, Option.some.injEq] at hr; subst hr; rw [add_zero]; exact hc
    | succ j => simp at hr
  · intro r hr; simp at hr; subst hr; rfl
  · unfold Go.maxLen; omega
  · omega
  · intro v' w' k1 k2 k3
    have hlt := h1.lt
    have hown2 : ∀ b, v.ownBlock = some b → b < wr.heap.size := fun b hb => (hlt b hb).2
    have hvl : vs.length = xss.length := by have := h1.1; omega
    refine h v' w' ⟨vs ++ [.slice A ys.length c], fun i b => (i < xss.length ∧ q i b) ∨ (i = xss.length ∧ New wr.heap.size w.heap.size b), by simpa using k1, ?_, ?_, ?_⟩ ((Chg.refl _ _).grown k2 fun k hk => .inl (hlt k hk))
    · rintro i b (⟨hi', hq⟩ | ⟨rfl, hq⟩)
      · obtain ⟨a1, a2, a3⟩ := h2 i b hq
        refine ⟨a1, by have := k2.size; omega, fun hh => ?_⟩
        rcases k3 b hh with k4 | k4
        · exact a3 k4
        · omega
      · refine ⟨by have := hq.1; omega, by have := k2.size; have := hq.2; omega, fun hh => ?_⟩
        rcases k3 b hh with k4 | k4
        · have := hown2 b k4; have := hq.1; omega
        · have := hq.2; omega
    · rintro i j b (⟨hi', hq⟩ | ⟨rfl, hq⟩) (⟨hj', hq'⟩ | ⟨rfl, hq'⟩)
      · exact h3 i j b hq hq'
      · have := (h2 i b hq).2.1; have := hq'.1; omega
      · have := (h2 j b hq').2.1; have := hq.1; omega
      · rfl
    · intro i hi'
      have hC := Chg.of_grown k2
      by_cases he : i < xss.length
      · obtain ⟨r, hr, hk⟩ := h4 i he
        refine ⟨r, by rw [List.getElem?_append_left (by omega)]; exact hr, ?_⟩
        rw [List.getElem_append_left he]
        exact ((hk.up hup).keep hC (fun b _ hq hb => (h2 i b hq).2.2 hb)).mono (fun b _ hq => .inl ⟨he, hq⟩)
      · have hi2 : i = xss.length := by simp at hi'; omega
        subst hi2
        refine ⟨.slice A ys.length c, by rw [List.getElem?_append_right (by omega), hvl]; simp, ?_⟩
        rw [List.getElem_append_right (by omega)]
        simp only [Nat.sub_self, List.getElem_cons_zero]
        exact (hu.keep hC (fun b _ hq hb => by have := hown2 b hb; have := hq.1; omega)).mono (fun b _ hq => .inr ⟨by first | rfl | trivial, hq⟩)
end Go.Proofs.Ytaopjpcclkkoiaa
namespace Go.Proofs.Ytaopjpcclkkoiaa
open Go.ChangeShapes Go.WideShapes Go.ChangeAt Go.RowKit
set_option linter.unusedSimpArgs false
set_option linter.unusedVariables false
set_option maxRecDepth 100000
set_option maxHeartbeats 400000
theorem okR_1 {st : List Int} {r : RowM} (h : rowB r.d r.c r.xs = false) : okR st r = false := by unfold okR; rw [h]; rfl
theorem okR_2 {st : List Int} {r : RowM} (h : ¬ saC st r.xs = 0) : okR st r = false := by unfold okR; rw [decide_eq_false h, Bool.false_and, Bool.and_false]
theorem okR_3 {st : List Int} {r : RowM} (h : rowB r.d r.c r.xs = true) (h2 : saC st r.xs = 0) : okR st r = thinB r.d st r.xs := by unfold okR; rw [h, decide_eq_true h2]; simp
def resL (n : Int) (rs : List RowM) : List (List Int) := if okC n rs rs.length then outC n rs rs.length else []
theorem resL_no {n : Int} {rs : List RowM} (h : okC n rs rs.length = false) : resL n rs = [] := by unfold resL; rw [h]; rfl
theorem resL_yes {n : Int} {rs : List RowM} (h : okC n rs rs.length = true) : resL n rs = outC n rs rs.length := by unfold resL; rw [h]; rfl
theorem allStacks_yes (w : World) (S : Nat → Prop) (A : Option Addr) (k m : Nat) (rs : List RowM) (hr : RowsV w S (.slice A rs.length k) rs) (hlk : rs.length ≤ k) (hkm : k ≤ 9223372036854775807) (hm : 1 ≤ m ∧ m ≤ 8) (hl : 1 ≤ rs.length ∧ rs.length ≤ 8) :
    Calls Try.prog 133 #[.agg #[.int .i64 (m : Int), .slice A rs.length k]] w fun e w' => ∃ v', e = .returned (.tuple #[v', .bool (okC m rs rs.length)]) ∧ IntSS w' (New w.heap.size w'.heap.size) v' (resL m rs) ∧ Up w w' := by
  have HR0 := Lib.hid (hr.mono (T := fun b => b < w.heap.size) fun _ h _ => h)
  have U0 := Lib.hid ((Chg.refl Nowhere w).alloc (.cells #[.int .i64 (m : Int), .slice A rs.length k] 58))
  have HW := Lib.hid (fun w => by have := within_any (m : Int) 1 8 w; rw [inB_yes (by omega)] at this; exact this)
  have t1 : decide ((rs.length : Int) < 1) = false := decide_eq_false (by omega)
  have t2 : decide ((8 : Int) < (rs.length : Int)) = false := decide_eq_false (by omega)
  have HM := Lib.hid hm
  have hlit := lit1 (w.alloc (.cells #[.int .i64 (m : Int), .slice A rs.length k] 58)) 1 (by unfold I64; omega) (w.heap.size + 1) (by simp)
  rw [World.size_alloc w] at hlit
  have HLIT := Lib.hid hlit
  clear hr hlit
  go_enter Try.func133, Try.ntmps133
  go_wp2_with fail
  refine (HW.out _).mono ?_
  rintro e w' ⟨rfl, rfl⟩
  go_wp2_with fail
  with_reducible refine (repeat_any _ _ _ HLIT.out m HM.out).mono ?_
  rintro e w2 ⟨v2, rfl, k2, g2⟩
  obtain ⟨A2, c2, rfl, hl2, hc2, -⟩ := k2.shape
  have K2 := Lib.hid k2
  have U2 := Lib.hid (Chg.trans (U0.out.alloc (.cells #[.int .i64 1] 2)) g2)
  have hz2 : w.heap.size + 1 ≤ w2.heap.size := by have h1 := g2.size; rw [World.size_alloc, World.size_alloc] at h1; omega
  have HZ2 := Lib.hid hz2
  have b1 : w2.cell? ⟨w.heap.size, 1, none⟩ = some (.slice A rs.length k) := Chg.cell (Chg.trans ((Chg.refl Nowhere _).alloc (.cells #[.int .i64 1] 2)) g2) (cell_new _ _ _ _) id
  have b2 := Chg.cell ((Chg.refl Nowhere w2).alloc (.cells #[] 36)) b1 id
  have hk2 := (k2.mono (T := fun _ => True) fun _ _ _ => trivial).up ((Chg.refl _ _).alloc (.cells #[] 36))
  rw [List.length_replicate] at hk2
  have e0 : List.replicate m (1 : Int) = atS m rs 0 := by unfold atS; rw [Int.toNat_natCast]
  rw [e0] at hk2
  have HK2 := Lib.hid hk2
  clear k2 g2 hz2 hk2 e0
  go_wp2
  clear b1 b2
  go_loopw [4, 5, 34] (fun q r i wr => ∃ (j : Nat), j ≤ rs.length ∧ i = .int .i64 j ∧ Hid (Ints wr (fun _ => True) q (atS m rs j)) ∧ Hid (OwnSS wr (w.heap.size + 1) r (outC m rs j)) ∧ Hid (okC m rs j = true) ∧ Hid (Up w wr) ∧ Hid (w.heap.size + 1 ≤ wr.heap.size)) (fun _ _ i _ => rs.length - (intOf i).toNat)
  case atStart =>
    refine ⟨0, by omega, rfl, ?_, OwnSS.made _ _ HZ2.out, rfl, U2.out.alloc _, Lib.hid (by have := HZ2.out; rw [World.size_alloc]; omega)⟩
    exact HK2.out
  case round =>
    obtain ⟨j, hj, rfl, hq, hr, hok, hu, hz⟩ := hrel
    by_cases hlt : j < rs.length
    · obtain ⟨b, o, rfl, hc⟩ := (HR0.out.up hu.out).at_ hlt
      have hrow := hc j hlt
      obtain ⟨⟨d, cr, ks⟩, HRJ⟩ : ∃ r, Hid (rs[j] = r) := ⟨_, Lib.hid rfl⟩
      obtain ⟨st, HST⟩ : ∃ st, Hid (atS m rs j = st) := ⟨_, Lib.hid rfl⟩
      have HOK : Hid (okC m rs (j + 1) = okR st ⟨d, cr, ks⟩) := Lib.hid (by rw [okC_succ, hok.out, HST.out, rowI_eq hlt, HRJ.out]; rfl)
      have HNX : Hid (atS m rs (j + 1) = saL st ks) := Lib.hid (by unfold atS; rw [HST.out, rowI_eq hlt, HRJ.out])
      have HOU : Hid (outC m rs (j + 1) = outC m rs j ++ [saL st ks]) := Lib.hid (by rw [outC_succ, HST.out, rowI_eq hlt, HRJ.out])
      have HBAD : Hid (okR st ⟨d, cr, ks⟩ = false → okC m rs rs.length = false) := Lib.hid (fun h => okC_false hlt (by rw [HST.out, rowI_eq hlt, HRJ.out]; exact h))
      have HLN := Lib.hid (show (outC m rs j).length ≤ 1099511627 by rw [outC_length]; omega)
      rw [HRJ.out] at hrow
      rw [HST.out] at hq
      obtain ⟨A3, c3, f1, f2, f3, hi3, hl3, hc3⟩ := hrow.open_
      obtain ⟨-, -, -, -, -, -, -, -, hd64, -⟩ := hrow
      have HI3 := Lib.hid hi3
      have HI64 := Lib.hid hd64
      obtain ⟨A4, c4, rfl, hl4, hc4, -⟩ := hq.out.shape
      obtain ⟨A5, c5, rfl, hl5, hc5, -⟩ := hr.out.ss.shape
      have HRV := Lib.hid (show RowV (wr.alloc (.cells #[.int .i64 d, .int .i64 cr, .slice A3 ks.length c3] 38)) _ (.agg #[.int .i64 d, .int .i64 cr, .slice A3 ks.length c3]) ⟨d, cr, ks⟩ from ⟨_, rfl, HI3.out.up ((Chg.refl Nowhere _).alloc _), HI64.out⟩)
      have B0 := Lib.hid (show Bx (wr.alloc (.cells #[.int .i64 d, .int .i64 cr, .slice A3 ks.length c3] 38)) wr.heap.size _ _ _ from box3 wr _ _ _ _)
      have UB := Lib.hid ((Chg.refl Nowhere wr).alloc (.cells #[.int .i64 d, .int .i64 cr, .slice A3 ks.length c3] 38))
      clear hc hd64 hi3
      go_wp2_with fail
      with_reducible refine (ValidRow_any _ _ _ _ HRV.out).mono ?_
      rintro e w3 ⟨rfl, g3⟩
      have G3 := Lib.hid (Chg.trans UB.out g3)
      have B3 := Lib.hid (B0.out.up g3)
      clear g3 f1 f2 f3
      cases hrb : rowB d cr ks with
      | false =>
        have HV := Lib.hid (HBAD.out (okR_1 hrb))
        go_wp2
        go_ret2
        rw [HV.out, resL_no HV.out]
        exact ⟨_, rfl, IntSS.nil _ _ 0 none (by omega), Chg.trans hu.out G3.out⟩
      | true =>
        have HRB := Lib.hid hrb
        obtain ⟨q1, q2, q3⟩ := B3.out
        clear hrb
        go_wp2_with fail
        with_reducible refine (StacksAfter_any _ _ _ _ _ st ks (hq.out.up G3.out) (HI3.out.up G3.out)).mono ?_
        rintro e w4 ⟨v4, rfl, k4, g4⟩
        obtain ⟨A6, c6, rfl, hl6, hc6, -⟩ := k4.shape
        have K4 := Lib.hid k4
        have G4 := Lib.hid (Chg.trans G3.out g4)
        have B4 := Lib.hid (B3.out.up g4)
        have z3 := Lib.hid G3.out.size
        clear k4 g4 q1 q2 q3
        by_cases hs0 : saC st ks = 0
        rotate_left
        · have HV := Lib.hid (HBAD.out (okR_2 (r := ⟨d, cr, ks⟩) hs0))
          have t3 : (saC st ks == 0) = false := by simpa using hs0
          have t4 : (saC st ks != 0) = true := by simpa using hs0
          clear hs0
          go_wp2
          go_ret2
          rw [HV.out, resL_no HV.out]
          exact ⟨_, rfl, IntSS.nil _ _ 0 none (by omega), Chg.trans hu.out G4.out⟩
        have HS0 := Lib.hid hs0
        have t4 : (saC st ks != 0) = false := by simpa using hs0
        have HO3 := Lib.hid (okR_3 (r := ⟨d, cr, ks⟩) HRB.out HS0.out)
        have HFT := Lib.hid (saC_fits hs0).1
        have HDR := Lib.hid (rowB_dir HRB.out).1
        obtain ⟨q1, q2, q3⟩ := B4.out
        clear hs0
        go_wp2_with fail
        with_reducible refine (keepsLimit_any _ _ _ _ d cr A3 c3 st ks (HI3.out.up G4.out) (hq.out.up G4.out) HFT.out HDR.out HI64.out.2).mono ?_
        rintro e w5 ⟨rfl, g5⟩
        have G5 := Lib.hid (Chg.trans G4.out g5)
        have K5 := Lib.hid (K4.out.up g5)
        clear g5 q1 q2 q3
        cases htb : thinB d st ks with
        | false =>
          have HV := Lib.hid (HBAD.out (HO3.out.trans htb))
          clear htb
          go_wp2
          go_ret2
          rw [HV.out, resL_no HV.out]
          exact ⟨_, rfl, IntSS.nil _ _ 0 none (by omega), Chg.trans hu.out G5.out⟩
        | true =>
          have HV := Lib.hid (HOK.out.trans (HO3.out.trans htb))
          clear htb
          have UA := Lib.hid (G5.out.alloc (.cells #[.slice A6 (saL st ks).length c6] 36))
          have KA := Lib.hid ((K5.out.up ((Chg.refl Nowhere _).alloc (.cells #[.slice A6 (saL st ks).length c6] 36))).mono (T := New wr.heap.size (w5.alloc (.cells #[.slice A6 (saL st ks).length c6] 36)).heap.size) (fun b h1 hb => ⟨by have := hb.1; have := z3.out; omega, h1⟩))
          go_wp2_with (first | (at_builtin; refine wp_append_ss2 rfl _ _ rfl (w.heap.size + 1) wr _ (outC m rs j) rfl hr.out UA.out _ _ (saL st ks) rfl (cell_new _ _ _ _) KA.out HLN.out hz.out ?_; intro v9 w9 ho9 hg9; have HO9 := Lib.hid ho9; have HG9 := Lib.hid hg9; clear ho9 hg9))
          go_roundw
          case rel =>
            have hj2 := (KA.out.keep HG9.out (fun b h1 h2 h9 => by have := h2.1; have := h9.2; omega)).mono (T := fun _ => True) (fun _ _ _ => trivial)
            rw [← HOU.out] at HO9
            exact ⟨j + 1, by omega, by go_num, Lib.hid (by rw [HNX.out]; exact hj2), HO9, HV, Lib.hid (Chg.new (Chg.trans hu.out UA.out) HG9.out (fun i hi h => by have h := h.1; omega)), Lib.hid (by have h1 := HG9.out.size; have h2 := UA.out.size; have h3 := hz.out; omega)⟩
          case measure => first | (simp [intOf]; done) | (simp [intOf]; omega)
    · obtain rfl : j = rs.length := by omega
      go_wp2
      go_ret2
      rw [hok.out, resL_yes hok.out]
      refine ⟨_, rfl, (hr.out.ss).mono (fun b hb => ⟨by have := hb.1; omega, hb.2⟩), hu.out⟩
theorem allStacks_any (w : World) (S : Nat → Prop) (v : Value) (c : ChartM) (h : ChartV w S v c) :
    Calls Try.prog 133 #[v] w fun e w' => ∃ v', e = .returned (.tuple #[v', .bool (chartB c)]) ∧ IntSS w' (New w.heap.size w'.heap.size) v' (chartL c) ∧ Up w w' := by
  obtain ⟨A, k, rfl, hr, hlk, hkm, hI⟩ := h.shape
  have HR0 := Lib.hid (hr.mono (T := fun b => b < w.heap.size) fun _ h _ => h)
  have HI := Lib.hid hI
  have U0 := Lib.hid ((Chg.refl Nowhere w).alloc (.cells #[.int .i64 c.n, .slice A c.rs.length k] 58))
  have HR := Lib.hid (HR0.out.up U0.out)
  clear h hr hI
  cases h1 : inB c.n 1 8 with
  | false =>
    have HV := Lib.hid (chart_no (c := c) (by unfold sizeB; rw [h1]; rfl))
    have HW := Lib.hid (fun w => by have := within_any c.n 1 8 w; rw [h1] at this; exact this)
    clear h1
    go_enter Try.func133, Try.ntmps133
    go_wp2_with fail
    refine (HW.out _).mono ?_
    rintro e w' ⟨rfl, rfl⟩
    go_wp2
    go_ret2
    rw [HV.out.1, HV.out.2]
    exact ⟨_, rfl, IntSS.nil _ _ 0 none (by omega), U0.out⟩
  | true =>
    have HW := Lib.hid (fun w => by have := within_any c.n 1 8 w; rw [h1] at this; exact this)
    by_cases h2 : c.rs.length < 1
    · have HV := Lib.hid (chart_no (c := c) (by unfold sizeB inB; rw [decide_eq_false (p := 1 ≤ (c.rs.length : Int) ∧ _) (by omega), Bool.and_false]))
      have t1 : decide ((c.rs.length : Int) < 1) = true := decide_eq_true (by omega)
      clear h1
      go_enter Try.func133, Try.ntmps133
      go_wp2_with fail
      refine (HW.out _).mono ?_
      rintro e w' ⟨rfl, rfl⟩
      go_wp2
      go_ret2
      rw [HV.out.1, HV.out.2]
      exact ⟨_, rfl, IntSS.nil _ _ 0 none (by omega), U0.out⟩
    by_cases h3 : 8 < c.rs.length
    · have HV := Lib.hid (chart_no (c := c) (by unfold sizeB inB; rw [decide_eq_false (p := 1 ≤ (c.rs.length : Int) ∧ _) (by omega), Bool.and_false]))
      have t1 : decide ((c.rs.length : Int) < 1) = false := decide_eq_false (by omega)
      have t2 : decide ((8 : Int) < (c.rs.length : Int)) = true := decide_eq_true (by omega)
      clear h1
      go_enter Try.func133, Try.ntmps133
      go_wp2_with fail
      refine (HW.out _).mono ?_
      rintro e w' ⟨rfl, rfl⟩
      go_wp2
      go_ret2
      rw [HV.out.1, HV.out.2]
      exact ⟨_, rfl, IntSS.nil _ _ 0 none (by omega), U0.out⟩
    have HSZ : sizeB c = true := by unfold sizeB; rw [h1]; unfold inB; rw [decide_eq_true (p := 1 ≤ (c.rs.length : Int) ∧ _) (by omega)]; rfl
    have hn : 1 ≤ c.n ∧ c.n ≤ 8 := by unfold inB at h1; exact of_decide_eq_true h1
    have e1 : chartB c = okC c.n c.rs c.rs.length := by unfold chartB; rw [HSZ, Bool.true_and]
    have e2 : chartL c = resL c.n c.rs := by unfold chartL resL; rw [e1]
    rw [e1, e2]
    obtain ⟨m, hm⟩ : ∃ m : Nat, c.n = m := ⟨c.n.toNat, by omega⟩
    rw [hm] at hn ⊢
    exact allStacks_yes w _ A k m c.rs HR0.out hlk hkm (by omega) (by omega)
end Go.Proofs.Ytaopjpcclkkoiaa
set_option linter.unusedSimpArgs false
set_option linter.unusedVariables false
set_option maxRecDepth 100000
set_option maxHeartbeats 400000
namespace Go.Proofs.Ytaopjpcclkkoiaa
open Go.ChangeShapes Go.WideShapes Go.ChangeAt Go.RowKit
theorem saC_le8 {st ks : List Int} (h : saC st ks = 0) : (aftTo st ks ks.length).length ≤ 8 := by
  unfold saC at h
  cases hb : (stkB st && stB ks) with
  | false => rw [hb] at h; simp at h
  | true =>
    by_cases hs : sumF takenK ks = st.length
    · rw [hb, if_pos rfl, if_pos hs] at h
      cases h8 : decide ((aftTo st ks ks.length).length ≤ 8) with
      | true => exact of_decide_eq_true h8
      | false => rw [h8, Bool.and_false] at h; simp at h
    · rw [hb, if_pos rfl, if_neg hs] at h; omega
theorem l15Stacks_yes (w : World) (S : Nat → Prop) (pb po : Nat) (A : Option Addr) (k m : Nat) (rs : List RowM) (h0 : w.cell? ⟨pb, po, none⟩ = some (.int .i64 (m : Int))) (h1 : w.cell? ⟨pb, po + 1, none⟩ = some (.slice A rs.length k)) (hr : RowsV w S (.slice A rs.length k) rs) (hlk : rs.length ≤ k) (hkm : k ≤ 9223372036854775807) (hm : 1 ≤ m ∧ m ≤ 8) (hl : 1 ≤ rs.length ∧ rs.length ≤ 8) :
    Calls Try.prog 77 #[.pointer (some ⟨pb, po, none⟩)] w fun e w' => ∃ v', e = .returned (.tuple #[v', .bool (okC m rs rs.length)]) ∧ IntSS w' (New w.heap.size w'.heap.size) v' (resL m rs) ∧ Up w w' := by
  have HR0 := Lib.hid (hr.mono (T := fun b => b < w.heap.size) fun _ h _ => h)
  have H0 := Lib.hid h0
  have H1 := Lib.hid h1
  have HW := Lib.hid (fun w => l00In_yes (m : Int) 1 8 w (by omega))
  have HW2 := Lib.hid (fun w => l00In_yes (rs.length : Int) 1 8 w (by omega))
  have HM := Lib.hid hm
  clear hr
  go_enter Try.func77, Try.ntmps77
  go_wp2_with fail
  refine (HW.out _).mono ?_
  rintro e w' ⟨rfl, rfl⟩
  go_wp2_with fail
  refine (HW2.out _).mono ?_
  rintro e w' ⟨rfl, rfl⟩
  go_wp2
  clear h0 h1
  go_loopw [4] (fun q wr => ∃ (j : Nat), j ≤ m ∧ Hid (OwnI wr w.heap.size q (List.replicate j 1)) ∧ Hid (Up w wr)) (fun q _ => m - (match q with | .slice _ n _ => n | _ => 0))
  case atStart =>
    exact ⟨0, by omega, OwnI.made _ _ (Nat.le_refl _), Lib.hid ((Chg.refl _ _).alloc _)⟩
  case round =>
    obtain ⟨j, hj, hq, hu⟩ := hrel
    have p0 := Chg.cell hu.out H0.out id
    obtain ⟨A1, c1, rfl, hl1, hc1, -⟩ := hq.out.ints.shape
    rw [List.length_replicate] at hl1 hq ⊢
    have HU1 := Lib.hid hu.out.size
    by_cases hlt : j < m
    · have HQA := Lib.hid (hq.out.alloc (.cells #[.int .i64 1] 2))
      have HI1 : Hid (I64 1) := Lib.hid (by unfold I64; omega)
      have HLE : Hid ((List.replicate j (1 : Int)).length ≤ 1099511627776) := Lib.hid (by rw [List.length_replicate]; omega)
      have HBS : Hid (w.heap.size ≤ (wr.alloc (.cells #[.int .i64 1] 2)).heap.size) := Lib.hid (by rw [World.size_alloc]; have := HU1.out; omega)
      go_wp2_with (first | (at_builtin; refine wp_append_int2 rfl _ _ rfl w.heap.size _ (List.replicate j 1) rfl HQA.out _ 1 rfl (cell_new _ _ _ _) HI1.out HLE.out HBS.out ?_; intro v9 w9 ho9 _ _ hg9; rw [← List.replicate_succ'] at ho9; have HO9 := Lib.hid ho9; have HG9 := Lib.hid hg9; clear ho9 hg9))
      obtain ⟨A7, c7, rfl, hl7, hc7, -⟩ := HO9.out.ints.shape
      rw [List.length_replicate] at hl7
      go_roundw
      case rel => exact ⟨j + 1, by omega, HO9, Lib.hid (Chg.new (hu.out.alloc _) HG9.out (fun i hi h => by have h : w.heap.size ≤ i := h; omega))⟩
      case measure => simp; omega
    · have ejm : m = j := by omega
      subst ejm
      have p1 := Chg.cell hu.out H1.out id
      have p2 := Chg.cell ((Chg.refl Nowhere wr).alloc (.cells #[] 36)) p1 id
      have HK2 : Hid (Ints (wr.alloc (.cells #[] 36)) (fun _ => True) (.slice A1 m c1) (atS m rs 0)) := Lib.hid (by
        have h := (hq.out.ints.mono (T := fun _ => True) fun _ _ _ => trivial).up ((Chg.refl _ _).alloc (.cells #[] 36))
        have e0 : List.replicate m (1 : Int) = atS m rs 0 := by unfold atS; rw [Int.toNat_natCast]
        rw [e0] at h
        exact h)
      go_wp2
      clear p0 p1 p2
      have HUQ := Lib.hid (hu.out.alloc (.cells #[] 36))
      have HZQ : Hid (w.heap.size ≤ wr.heap.size) := Lib.hid HU1.out
      go_loopw [4, 5, 6] (fun q r i wr => ∃ (j : Nat), j ≤ rs.length ∧ i = .int .i64 j ∧ Hid (Ints wr (fun _ => True) q (atS m rs j)) ∧ Hid (OwnSS wr w.heap.size r (outC m rs j)) ∧ Hid (okC m rs j = true) ∧ Hid (Up w wr) ∧ Hid (w.heap.size ≤ wr.heap.size)) (fun _ _ i _ => rs.length - (intOf i).toNat)
      case atStart =>
        exact ⟨0, by omega, rfl, HK2, OwnSS.made _ _ HZQ.out, rfl, HUQ, Lib.hid (by have := HZQ.out; rw [World.size_alloc]; omega)⟩
      case round =>
        clear hq hu HU1 HUQ HZQ HK2
        obtain ⟨j, hj, rfl, hq, hr, hok, hu, hz⟩ := hrel
        have p0 := Chg.cell hu.out H0.out id
        have p1 := Chg.cell hu.out H1.out id
        obtain ⟨A5, c5, rfl, hl5, hc5, -⟩ := hr.out.ss.shape
        obtain ⟨A4, c4, rfl, hl4, hc4, -⟩ := hq.out.shape
        by_cases hlt : j < rs.length
        · obtain ⟨b, o, rfl, hc⟩ := (HR0.out.up hu.out).at_ hlt
          have hrow := hc j hlt
          obtain ⟨⟨d, cr, ks⟩, HRJ⟩ : ∃ r, Hid (rs[j] = r) := ⟨_, Lib.hid rfl⟩
          obtain ⟨st, HST⟩ : ∃ st, Hid (atS m rs j = st) := ⟨_, Lib.hid rfl⟩
          have HOK : Hid (okC m rs (j + 1) = okR st ⟨d, cr, ks⟩) := Lib.hid (by rw [okC_succ, hok.out, HST.out, rowI_eq hlt, HRJ.out]; rfl)
          have HNX : Hid (atS m rs (j + 1) = saL st ks) := Lib.hid (by unfold atS; rw [HST.out, rowI_eq hlt, HRJ.out])
          have HOU : Hid (outC m rs (j + 1) = outC m rs j ++ [saL st ks]) := Lib.hid (by rw [outC_succ, HST.out, rowI_eq hlt, HRJ.out])
          have HBAD : Hid (okR st ⟨d, cr, ks⟩ = false → okC m rs rs.length = false) := Lib.hid (fun h => okC_false hlt (by rw [HST.out, rowI_eq hlt, HRJ.out]; exact h))
          have HLN := Lib.hid (show (outC m rs j).length ≤ 1099511627 by rw [outC_length]; omega)
          rw [HRJ.out] at hrow
          rw [HST.out] at hq hl4 ⊢
          have HROW := Lib.hid hrow
          obtain ⟨A3, c3, f1, f2, f3, hi3, hl3, hc3⟩ := hrow.open_
          have HI3 := Lib.hid hi3
          clear hc hi3 f1 f2 hrow
          go_wp2_with fail
          with_reducible refine (l15Row_any _ _ _ _ _ HROW.out).mono ?_
          rintro e w3 ⟨rfl, rfl⟩
          cases hrb : rowB d cr ks with
          | false =>
            have HV := Lib.hid (HBAD.out (okR_1 hrb))
            go_wp2
            go_ret2
            rw [HV.out, resL_no HV.out]
            exact ⟨_, rfl, IntSS.nil _ _ 0 none (by omega), hu.out⟩
          | true =>
            have HRB := Lib.hid hrb
            clear hrb
            go_wp2_with fail
            with_reducible refine (sStacksAfter_any _ _ _ _ _ st ks hq.out HI3.out).mono ?_
            rintro e w4 ⟨v4, rfl, k4, g4⟩
            obtain ⟨A6, c6, rfl, hl6, hc6, -⟩ := k4.shape
            have K4 := Lib.hid k4
            have G4 := Lib.hid g4
            have p4 := Chg.cell g4 p1 id
            clear k4 g4 p0 p1 f3
            by_cases hs0 : saC st ks = 0
            rotate_left
            · have HV := Lib.hid (HBAD.out (okR_2 (r := ⟨d, cr, ks⟩) hs0))
              have t3 : (saC st ks == 0) = false := by simpa using hs0
              have t4 : (saC st ks != 0) = true := by simpa using hs0
              clear hs0
              go_wp2
              go_ret2
              rw [HV.out, resL_no HV.out]
              exact ⟨_, rfl, IntSS.nil _ _ 0 none (by omega), Chg.trans hu.out G4.out⟩
            have HS0 := Lib.hid hs0
            have t4 : (saC st ks != 0) = false := by simpa using hs0
            have HO3 := Lib.hid (okR_3 (r := ⟨d, cr, ks⟩) HRB.out HS0.out)
            have HFT := Lib.hid (saC_fits hs0).1
            have HSL := Lib.hid (saC_fits hs0).2
            have HL8 := Lib.hid (saC_le8 hs0)
            have HDR := Lib.hid (rowB_dir HRB.out).1
            have HQ := hq
            clear hs0
            rcases HDR.out with rfl | rfl
            · go_wp2_with fail
              with_reducible refine (l15ThinR_any _ _ _ _ _ _ st _ _ cr ks (HQ.out.up G4.out) (by rw [← HSL.out]; exact K4.out) (HROW.out.up G4.out) HFT.out HL8.out).mono ?_
              rintro e w5 ⟨rfl, g5⟩
              have G5 := Lib.hid (Chg.trans G4.out g5)
              have K5 := Lib.hid (K4.out.up g5)
              clear g5 p4
              cases htb : thinB 1 st ks with
              | false =>
                have HV := Lib.hid (HBAD.out (HO3.out.trans htb))
                clear htb
                go_wp2
                go_ret2
                rw [HV.out, resL_no HV.out]
                exact ⟨_, rfl, IntSS.nil _ _ 0 none (by omega), Chg.trans hu.out G5.out⟩
              | true =>
                have HV := Lib.hid (HOK.out.trans (HO3.out.trans htb))
                clear htb
                have UA := Lib.hid (G5.out.alloc (.cells #[.slice A6 (saL st ks).length c6] 36))
                have KA := Lib.hid ((K5.out.up ((Chg.refl Nowhere _).alloc (.cells #[.slice A6 (saL st ks).length c6] 36))).mono (T := New wr.heap.size (w5.alloc (.cells #[.slice A6 (saL st ks).length c6] 36)).heap.size) (fun b h1 hb => ⟨hb.1, h1⟩))
                go_wp2_with (first | (at_builtin; refine wp_append_ss2 rfl _ _ rfl w.heap.size wr _ (outC m rs j) rfl hr.out UA.out _ _ (saL st ks) rfl (cell_new _ _ _ _) KA.out HLN.out hz.out ?_; intro v9 w9 ho9 hg9; have HO9 := Lib.hid ho9; have HG9 := Lib.hid hg9; clear ho9 hg9))
                go_roundw
                case rel =>
                  have hj2 := (KA.out.keep HG9.out (fun b h1 h2 h9 => by have := h2.1; have := h9.2; omega)).mono (T := fun _ => True) (fun _ _ _ => trivial)
                  rw [← HOU.out] at HO9
                  exact ⟨j + 1, by omega, by go_num, Lib.hid (by rw [HNX.out]; exact hj2), HO9, HV, Lib.hid (Chg.new (Chg.trans hu.out UA.out) HG9.out (fun i hi h => by have h := h.1; omega)), Lib.hid (by have h1 := HG9.out.size; have h2 := UA.out.size; have h3 := hz.out; omega)⟩
                case measure => first | (simp [intOf]; done) | (simp [intOf]; omega)
            · go_wp2_with fail
              with_reducible refine (l15ThinL_any _ _ _ _ _ _ st _ _ cr ks (HQ.out.up G4.out) (by rw [← HSL.out]; exact K4.out) (HROW.out.up G4.out) HFT.out HL8.out).mono ?_
              rintro e w5 ⟨rfl, g5⟩
              have G5 := Lib.hid (Chg.trans G4.out g5)
              have K5 := Lib.hid (K4.out.up g5)
              clear g5 p4
              cases htb : thinB (-1) st ks with
              | false =>
                have HV := Lib.hid (HBAD.out (HO3.out.trans htb))
                clear htb
                go_wp2
                go_ret2
                rw [HV.out, resL_no HV.out]
                exact ⟨_, rfl, IntSS.nil _ _ 0 none (by omega), Chg.trans hu.out G5.out⟩
              | true =>
                have HV := Lib.hid (HOK.out.trans (HO3.out.trans htb))
                clear htb
                have UA := Lib.hid (G5.out.alloc (.cells #[.slice A6 (saL st ks).length c6] 36))
                have KA := Lib.hid ((K5.out.up ((Chg.refl Nowhere _).alloc (.cells #[.slice A6 (saL st ks).length c6] 36))).mono (T := New wr.heap.size (w5.alloc (.cells #[.slice A6 (saL st ks).length c6] 36)).heap.size) (fun b h1 hb => ⟨hb.1, h1⟩))
                go_wp2_with (first | (at_builtin; refine wp_append_ss2 rfl _ _ rfl w.heap.size wr _ (outC m rs j) rfl hr.out UA.out _ _ (saL st ks) rfl (cell_new _ _ _ _) KA.out HLN.out hz.out ?_; intro v9 w9 ho9 hg9; have HO9 := Lib.hid ho9; have HG9 := Lib.hid hg9; clear ho9 hg9))
                go_roundw
                case rel =>
                  have hj2 := (KA.out.keep HG9.out (fun b h1 h2 h9 => by have := h2.1; have := h9.2; omega)).mono (T := fun _ => True) (fun _ _ _ => trivial)
                  rw [← HOU.out] at HO9
                  exact ⟨j + 1, by omega, by go_num, Lib.hid (by rw [HNX.out]; exact hj2), HO9, HV, Lib.hid (Chg.new (Chg.trans hu.out UA.out) HG9.out (fun i hi h => by have h := h.1; omega)), Lib.hid (by have h1 := HG9.out.size; have h2 := UA.out.size; have h3 := hz.out; omega)⟩
                case measure => first | (simp [intOf]; done) | (simp [intOf]; omega)
        · obtain rfl : j = rs.length := by omega
          go_wp2
          go_ret2
          rw [hok.out, resL_yes hok.out]
          exact ⟨_, rfl, hr.out.ss, hu.out⟩
theorem l15Stacks_any (w : World) (S : Nat → Prop) (b o : Nat) (c : ChartM) (h : ChartAt w S b o c) :
    Calls Try.prog 77 #[.pointer (some ⟨b, o, none⟩)] w fun e w' => ∃ v', e = .returned (.tuple #[v', .bool (chartB c)]) ∧ IntSS w' (New w.heap.size w'.heap.size) v' (chartL c) ∧ Up w w' := by
  obtain ⟨A, k, h0, h1, hr, hlk, hkm, hI, hbl⟩ := h
  cases e1 : inB c.n 1 8 with
  | false =>
    have HV := Lib.hid (chart_no (c := c) (by unfold sizeB; rw [e1]; rfl))
    have HW := Lib.hid (fun w => by have := l00In_any c.n 1 8 w; rw [e1] at this; exact this)
    clear e1
    go_enter Try.func77, Try.ntmps77
    go_wp2_with fail
    refine (HW.out _).mono ?_
    rintro e w' ⟨rfl, rfl⟩
    go_wp2
    go_ret2
    rw [HV.out.1, HV.out.2]
    exact ⟨_, rfl, IntSS.nil _ _ 0 none (by omega), Chg.refl _ _⟩
  | true =>
    cases e2 : inB c.rs.length 1 8 with
    | false =>
      have HV := Lib.hid (chart_no (c := c) (by unfold sizeB; rw [e2, Bool.and_false]))
      have HW := Lib.hid (fun w => by have := l00In_any c.n 1 8 w; rw [e1] at this; exact this)
      have HW2 := Lib.hid (fun w => by have := l00In_any c.rs.length 1 8 w; rw [e2] at this; exact this)
      clear e1 e2
      go_enter Try.func77, Try.ntmps77
      go_wp2_with fail
      refine (HW.out _).mono ?_
      rintro e w' ⟨rfl, rfl⟩
      go_wp2_with fail
      refine (HW2.out _).mono ?_
      rintro e w' ⟨rfl, rfl⟩
      go_wp2
      go_ret2
      rw [HV.out.1, HV.out.2]
      exact ⟨_, rfl, IntSS.nil _ _ 0 none (by omega), Chg.refl _ _⟩
    | true =>
      have HSZ : sizeB c = true := by unfold sizeB; rw [e1, e2]; rfl
      have hn : 1 ≤ c.n ∧ c.n ≤ 8 := by unfold inB at e1; exact of_decide_eq_true e1
      have hl : 1 ≤ (c.rs.length : Int) ∧ (c.rs.length : Int) ≤ 8 := by unfold inB at e2; exact of_decide_eq_true e2
      have q1 : chartB c = okC c.n c.rs c.rs.length := by unfold chartB; rw [HSZ, Bool.true_and]
      have q2 : chartL c = resL c.n c.rs := by unfold chartL resL; rw [q1]
      rw [q1, q2]
      obtain ⟨m, hm⟩ : ∃ m : Nat, c.n = m := ⟨c.n.toNat, by omega⟩
      rw [hm] at hn h0 ⊢
      exact l15Stacks_yes w _ b o A k m c.rs h0 h1 hr hlk hkm (by omega) (by omega)
end Go.Proofs.Ytaopjpcclkkoiaa
set_option linter.unusedSimpArgs false
set_option linter.unusedVariables false
set_option maxRecDepth 100000
set_option maxHeartbeats 400000
namespace Go.Proofs.Ytaopjpcclkkoiaa
open Go.ChangeShapes Go.WideShapes Go.ChangeAt Go.RowKit
theorem ChartV.box {w : World} {S : Nat → Prop} {A : Option Addr} {k : Nat} {c : ChartM} (h : ChartV w S (.agg #[.int .i64 c.n, .slice A c.rs.length k]) c) : ChartAt (w.alloc (.cells #[.int .i64 c.n, .slice A c.rs.length k] 58)) S w.heap.size 0 c := by
  obtain ⟨s, h1, h2, h3⟩ := h
  obtain rfl : .slice A c.rs.length k = s := by simpa using h1
  obtain ⟨A', k', he, h4, h5, _⟩ := h2.shape
  obtain ⟨rfl, rfl⟩ : A = A' ∧ k = k' := by simpa using he
  exact ⟨A, k, cell_new _ _ _ _, cell_new _ _ _ _, h2.up ((Chg.refl _ _).alloc _), h4, h5, h3, by simp⟩
theorem ChartV.up {w w' : World} {S : Nat → Prop} {v : Value} {c : ChartM} (h : ChartV w S v c) (g : Up w w') : ChartV w' S v c :=
  let ⟨s, h1, h2, h3⟩ := h; ⟨s, h1, h2.up g, h3⟩
theorem ValidChart_any (w : World) (S : Nat → Prop) (v : Value) (c : ChartM) (h : ChartV w S v c) :
    Calls Try.prog 80 #[v] w fun e w' => e = .returned (.bool (chartB c)) ∧ Up w w' := by
  obtain ⟨A, k, rfl, -⟩ := h.shape
  have U0 := Lib.hid ((Chg.refl Nowhere w).alloc (.cells #[.int .i64 c.n, .slice A c.rs.length k] 58))
  have H := Lib.hid (h.up U0.out)
  clear h
  go_enter Try.func80, Try.ntmps80
  go_wp2_with fail
  with_reducible refine (allStacks_any _ _ _ c H.out).mono ?_
  rintro e w1 ⟨v1, rfl, k1, g1⟩
  have G1 := Lib.hid (Chg.trans U0.out g1)
  clear k1 g1
  go_wp2
  go_ret
  exact ⟨by simp, G1.out⟩
theorem l15Ok_any (w : World) (S : Nat → Prop) (b o : Nat) (c : ChartM) (h : ChartAt w S b o c) :
    Calls Try.prog 135 #[.pointer (some ⟨b, o, none⟩)] w fun e w' => e = .returned (.bool (chartB c)) ∧ Up w w' := by
  have H := Lib.hid h
  clear h
  go_enter Try.func135, Try.ntmps135
  go_wp2_with fail
  with_reducible refine (l15Stacks_any _ _ _ _ c H.out).mono ?_
  rintro e w1 ⟨v1, rfl, k1, g1⟩
  have G1 := Lib.hid g1
  clear k1 g1
  go_wp2
  go_ret
  exact ⟨by simp, G1.out⟩
theorem sValidChart_any (w : World) (S : Nat → Prop) (v : Value) (c : ChartM) (h : ChartV w S v c) :
    Calls Try.prog 83 #[v] w fun e w' => e = .returned (.bool (chartB c)) ∧ Up w w' := by
  obtain ⟨A, k, rfl, -⟩ := h.shape
  have U0 := Lib.hid ((Chg.refl Nowhere w).alloc (.cells #[.int .i64 c.n, .slice A c.rs.length k] 58))
  have H := Lib.hid h.box
  clear h
  go_enter Try.func83, Try.ntmps83
  go_wp2_with fail
  with_reducible refine (l15Ok_any _ _ _ _ c H.out).mono ?_
  rintro e w1 ⟨rfl, g1⟩
  have G1 := Lib.hid (Chg.trans U0.out g1)
  clear g1
  go_wp2
  go_ret
  exact ⟨by simp, G1.out⟩
/-- the widest of the stacks -/
def mxTo (n : Int) (xss : List (List Int)) : Nat → Int
  | 0 => n
  | j + 1 => if mxTo n xss j > ((xss.getD j []).length : Int) then mxTo n xss j else (xss.getD j []).length
theorem saL_len (st ks : List Int) : (saL st ks).length ≤ 8 := by
  by_cases h : saC st ks = 0
  · rw [(saC_fits h).2]; exact saC_le8 h
  · unfold saL; rw [if_neg h]; simp
theorem chartL_len (c : ChartM) : (∀ xs ∈ chartL c, xs.length ≤ 8) ∧ (chartL c).length ≤ c.rs.length := by
  unfold chartL
  split
  · refine ⟨fun xs hx => ?_, by rw [outC_length]; omega⟩
    unfold outC at hx
    obtain ⟨i, _, rfl⟩ := List.mem_map.1 hx
    exact saL_len _ _
  · simp
theorem mxTo_bd {n : Int} {xss : List (List Int)} (hn : 1 ≤ n ∧ n ≤ 8) (hx : ∀ xs ∈ xss, xs.length ≤ 8) : ∀ j, j ≤ xss.length → 1 ≤ mxTo n xss j ∧ mxTo n xss j ≤ 8
  | 0, _ => hn
  | j + 1, h => by
    have ih := mxTo_bd hn hx j (by omega)
    have h8 := hx _ (List.getElem_mem (show j < xss.length by omega))
    have e : xss.getD j [] = xss[j] := by simp [show j < xss.length by omega]
    unfold mxTo
    rw [e]
    split <;> omega
def widM (c : ChartM) : Int := 2 * mxTo c.n (chartL c) (chartL c).length + 1
theorem chart_size {c : ChartM} (h : chartB c = true) : (1 ≤ c.n ∧ c.n ≤ 8) ∧ c.rs.length ≤ 8 := by
  unfold chartB sizeB inB at h
  rw [Bool.and_eq_true, Bool.and_eq_true] at h
  have h1 := of_decide_eq_true h.1.1
  have h2 := of_decide_eq_true h.1.2
  exact ⟨h1, by omega⟩
theorem layoutWidth_any (w : World) (S : Nat → Prop) (v : Value) (c : ChartM) (h : ChartV w S v c) (hb : chartB c = true) :
    Calls Try.prog 81 #[v] w fun e w' => e = .returned (.int .i64 (widM c)) ∧ Up w w' := by
  obtain ⟨A, k, rfl, -⟩ := h.shape
  have U0 := Lib.hid ((Chg.refl Nowhere w).alloc (.cells #[.int .i64 c.n, .slice A c.rs.length k] 58))
  have H := Lib.hid (h.up U0.out)
  have HN := Lib.hid (chart_size hb).1
  obtain ⟨L, hL⟩ : ∃ L, L = chartL c := ⟨_, rfl⟩
  have HL := Lib.hid (show ∀ xs ∈ L, xs.length ≤ 8 by rw [hL]; exact (chartL_len c).1)
  have HLL := Lib.hid (show L.length ≤ 8 by rw [hL]; have := (chartL_len c).2; have := (chart_size hb).2; omega)
  have HWD : Hid (widM c = 2 * mxTo c.n L L.length + 1) := Lib.hid (by unfold widM; rw [hL])
  have HE := Lib.hid hL
  clear h hb hL
  go_enter Try.func81, Try.ntmps81
  go_wp2_with fail
  with_reducible refine (allStacks_any _ _ _ c H.out).mono ?_
  rintro e w1 ⟨v1, rfl, k1, g1⟩
  have G1 := Lib.hid (Chg.trans U0.out g1)
  rw [← HE.out] at k1
  obtain ⟨A1, c1, rfl, hl1, hc1, -⟩ := k1.shape
  have K1 := Lib.hid k1
  clear k1 g1
  go_wp2
  go_loopw [3, 17] (fun q i wr => ∃ (j : Nat), j ≤ L.length ∧ i = .int .i64 j ∧ q = .int .i64 (mxTo c.n L j) ∧ w1 = wr) (fun _ i _ => L.length - (intOf i).toNat)
  case atStart => exact ⟨0, by omega, rfl, rfl, rfl⟩
  case round =>
    obtain ⟨j, hj, rfl, rfl, rfl⟩ := hrel
    have hbd := mxTo_bd HN.out HL.out j hj
    by_cases hlt : j < L.length
    · obtain ⟨b, o, cc, A2, c2, he, -, -, f1, -, hl2, hc2⟩ := K1.out.at_ hlt
      obtain ⟨rfl, rfl⟩ : A1 = some ⟨b, o, none⟩ ∧ c1 = cc := by simpa using he
      have h8 := HL.out _ (List.getElem_mem hlt)
      have HM : Hid (mxTo c.n L (j + 1) = if mxTo c.n L j > (L[j].length : Int) then mxTo c.n L j else L[j].length) := Lib.hid (by rw [mxTo]; simp [hlt])
      clear he
      by_cases hgt : mxTo c.n L j > (L[j].length : Int)
      · have HM2 := Lib.hid (HM.out.trans (if_pos hgt))
        have t1 : max (mxTo c.n L j) (L[j].length : Int) = mxTo c.n L j := by omega
        go_wp2
        go_roundw
        case rel => exact ⟨j + 1, by omega, by go_num, by rw [HM2.out], trivial⟩
        case measure => first | (simp [intOf]; done) | (simp [intOf]; omega)
      · have HM2 := Lib.hid (HM.out.trans (if_neg hgt))
        have t1 : max (mxTo c.n L j) (L[j].length : Int) = L[j].length := by omega
        go_wp2
        go_roundw
        case rel => exact ⟨j + 1, by omega, by go_num, by rw [HM2.out], trivial⟩
        case measure => first | (simp [intOf]; done) | (simp [intOf]; omega)
    · obtain rfl : j = L.length := by omega
      have y1 : IntKind.i64.wrap (2 * mxTo c.n L L.length) = 2 * mxTo c.n L L.length := IntWalk.i64_in _ (by omega)
      have y2 : IntKind.i64.wrap (2 * mxTo c.n L L.length + 1) = 2 * mxTo c.n L L.length + 1 := IntWalk.i64_in _ (by omega)
      go_wp2
      go_ret
      exact ⟨ret_int HWD.out.symm, G1.out⟩
def widV (c : ChartM) : Int := if chartB c then widM c else 0
def widC (c : ChartM) : Int := if chartB c then 0 else 1
theorem wid_no {c : ChartM} (h : chartB c = false) : widV c = 0 ∧ widC c = 1 := by unfold widV widC; rw [h]; exact ⟨rfl, rfl⟩
theorem wid_yes {c : ChartM} (h : chartB c = true) : widV c = widM c ∧ widC c = 0 := by unfold widV widC; rw [h]; exact ⟨rfl, rfl⟩
theorem LayoutWidth_any (w : World) (S : Nat → Prop) (v : Value) (c : ChartM) (h : ChartV w S v c) :
    Calls Try.prog 28 #[v] w fun e w' => e = .returned (.tuple #[.int .i64 (widV c), .int .i64 (widC c)]) ∧ Up w w' := by
  obtain ⟨A, k, rfl, -⟩ := h.shape
  have U0 := Lib.hid ((Chg.refl Nowhere w).alloc (.cells #[.int .i64 c.n, .slice A c.rs.length k] 58))
  have H := Lib.hid (h.up U0.out)
  have B0 := Lib.hid (show (w.alloc (.cells #[.int .i64 c.n, .slice A c.rs.length k] 58)).cell? ⟨w.heap.size, 0, none⟩ = some (.int .i64 c.n) ∧ (w.alloc (.cells #[.int .i64 c.n, .slice A c.rs.length k] 58)).cell? ⟨w.heap.size, 1, none⟩ = some (.slice A c.rs.length k) from ⟨cell_new _ _ _ _, cell_new _ _ _ _⟩)
  clear h
  go_enter Try.func28, Try.ntmps28
  go_wp2_with fail
  with_reducible refine (ValidChart_any _ _ _ c H.out).mono ?_
  rintro e w1 ⟨rfl, g1⟩
  have G1 := Lib.hid (Chg.trans U0.out g1)
  have q0 := Chg.cell g1 B0.out.1 id
  have q1 := Chg.cell g1 B0.out.2 id
  have H1 := Lib.hid (H.out.up g1)
  clear g1
  cases hb : chartB c with
  | false =>
    have HV := Lib.hid (wid_no hb)
    clear hb
    go_wp2
    go_ret2
    rw [HV.out.1, HV.out.2]
    exact ⟨rfl, G1.out⟩
  | true =>
    have HV := Lib.hid (wid_yes hb)
    have HB := Lib.hid hb
    clear hb
    go_wp2_with fail
    with_reducible refine (layoutWidth_any _ _ _ c H1.out HB.out).mono ?_
    rintro e w2 ⟨rfl, g2⟩
    have G2 := Lib.hid (Chg.trans G1.out g2)
    clear g2 q0 q1
    go_wp2
    go_ret2
    rw [HV.out.1, HV.out.2]
    exact ⟨rfl, G2.out⟩
theorem l00Max_any (a b : Int) (w : World) : Calls Try.prog 78 #[.int .i64 a, .int .i64 b] w fun e w' => e = .returned (.int .i64 (if a > b then a else b)) ∧ w = w' := by
  by_cases h : a > b
  · rw [if_pos h]
    go_enter Try.func78, Try.ntmps78
    go_wp2
    go_ret
    exact ⟨rfl, rfl⟩
  · rw [if_neg h]
    go_enter Try.func78, Try.ntmps78
    go_wp2
    go_ret
    exact ⟨rfl, rfl⟩
theorem sLayoutWidth_any (w : World) (S : Nat → Prop) (v : Value) (c : ChartM) (h : ChartV w S v c) :
    Calls Try.prog 26 #[v] w fun e w' => e = .returned (.tuple #[.int .i64 (widV c), .int .i64 (widC c)]) ∧ Up w w' := by
  obtain ⟨A, k, rfl, -⟩ := h.shape
  have U0 := Lib.hid ((Chg.refl Nowhere w).alloc (.cells #[.int .i64 c.n, .slice A c.rs.length k] 58))
  have H := Lib.hid h.box
  have B0 := Lib.hid (show (w.alloc (.cells #[.int .i64 c.n, .slice A c.rs.length k] 58)).cell? ⟨w.heap.size, 0, none⟩ = some (.int .i64 c.n) from cell_new _ _ _ _)
  clear h
  go_enter Try.func26, Try.ntmps26
  go_wp2_with fail
  with_reducible refine (l15Stacks_any _ _ _ _ c H.out).mono ?_
  rintro e w1 ⟨v1, rfl, k1, g1⟩
  have G1 := Lib.hid (Chg.trans U0.out g1)
  have q0 := Chg.cell g1 B0.out id
  obtain ⟨L, hL⟩ : ∃ L, L = chartL c := ⟨_, rfl⟩
  rw [← hL] at k1
  obtain ⟨A1, c1, rfl, hl1, hc1, -⟩ := k1.shape
  have K1 := Lib.hid k1
  cases hb : chartB c with
  | false =>
    have HV := Lib.hid (wid_no hb)
    clear hb hL k1 g1
    go_wp2
    go_ret2
    rw [HV.out.1, HV.out.2]
    exact ⟨rfl, G1.out⟩
  | true =>
    have HN := Lib.hid (chart_size hb).1
    have HL := Lib.hid (show ∀ xs ∈ L, xs.length ≤ 8 by rw [hL]; exact (chartL_len c).1)
    have HLL := Lib.hid (show L.length ≤ 8 by rw [hL]; have := (chartL_len c).2; have := (chart_size hb).2; omega)
    have HWD : Hid (widV c = 2 * mxTo c.n L L.length + 1 ∧ widC c = 0) := Lib.hid (by rw [(wid_yes hb).1, (wid_yes hb).2]; unfold widM; rw [hL]; exact ⟨rfl, rfl⟩)
    clear hb hL k1 g1
    go_wp2
    clear q0
    go_loopw [6, 7] (fun q i wr => ∃ (j : Nat), j ≤ L.length ∧ i = .int .i64 j ∧ q = .int .i64 (mxTo c.n L j) ∧ w1 = wr) (fun _ i _ => L.length - (intOf i).toNat)
    case atStart => exact ⟨0, by omega, rfl, rfl, rfl⟩
    case round =>
      obtain ⟨j, hj, rfl, rfl, rfl⟩ := hrel
      have hbd := mxTo_bd HN.out HL.out j hj
      by_cases hlt : j < L.length
      · obtain ⟨b, o, cc, A2, c2, he, -, -, f1, -, hl2, hc2⟩ := K1.out.at_ hlt
        obtain ⟨rfl, rfl⟩ : A1 = some ⟨b, o, none⟩ ∧ c1 = cc := by simpa using he
        have h8 := HL.out _ (List.getElem_mem hlt)
        have HM : Hid (mxTo c.n L (j + 1) = if mxTo c.n L j > (L[j].length : Int) then mxTo c.n L j else L[j].length) := Lib.hid (by rw [mxTo]; simp [hlt])
        clear he
        go_wp2_with fail
        with_reducible refine (l00Max_any _ _ _).mono ?_
        rintro e w9 ⟨rfl, rfl⟩
        rw [← HM.out]
        go_wp2
        go_roundw
        case rel => exact ⟨j + 1, by omega, by go_num, rfl, trivial⟩
        case measure => first | (simp [intOf]; done) | (simp [intOf]; omega)
      · obtain rfl : j = L.length := by omega
        have y1 : IntKind.i64.wrap (2 * mxTo c.n L L.length) = 2 * mxTo c.n L L.length := IntWalk.i64_in _ (by omega)
        have y2 : IntKind.i64.wrap (2 * mxTo c.n L L.length + 1) = 2 * mxTo c.n L L.length + 1 := IntWalk.i64_in _ (by omega)
        go_wp2
        go_ret2
        rw [HWD.out.1, HWD.out.2]
        exact ⟨rfl, G1.out⟩
end Go.Proofs.Ytaopjpcclkkoiaa
set_option linter.unusedSimpArgs false
set_option linter.unusedVariables false
set_option maxRecDepth 100000
set_option maxHeartbeats 400000
namespace Go.Proofs.Ytaopjpcclkkoiaa
open Go.ChangeShapes Go.WideShapes Go.ChangeAt Go.RowKit
theorem RowAt.val {w : World} {S : Nat → Prop} {b o : Nat} {r : RowM} (h : RowAt w S b o r) : ∃ A c, w.cell? ⟨b, o, none⟩ = some (.int .i64 r.d) ∧ w.cell? ⟨b, o + 1, none⟩ = some (.int .i64 r.c) ∧ w.cell? ⟨b, o + 2, none⟩ = some (.slice A r.xs.length c) ∧ RowV w S (.agg #[.int .i64 r.d, .int .i64 r.c, .slice A r.xs.length c]) r := by
  obtain ⟨A, c, h1, h2, h3, h4, h5, h6, h7, h8⟩ := h
  exact ⟨A, c, h1, h2, h3, _, rfl, h4, h7⟩
/-- the numbers in the first rows -/
def cntR (rs : List RowM) (j : Nat) : Nat := ((rs.take j).map fun r => r.xs.length).sum
theorem cntR_succ {rs : List RowM} {j : Nat} (h : j < rs.length) : cntR rs (j + 1) = cntR rs j + rs[j].xs.length := by
  unfold cntR
  rw [List.take_succ_eq_append_getElem h, List.map_append, List.sum_append]
  rfl
theorem cntR_le {rs : List RowM} {i j : Nat} (h : i ≤ j) : cntR rs i ≤ cntR rs j := by
  unfold cntR
  have e : (rs.take j) = (rs.take j).take i ++ (rs.take j).drop i := (List.take_append_drop i _).symm
  rw [List.take_take, Nat.min_eq_left h] at e
  rw [e]
  simp
def cntRs (rs : List RowM) : Nat := rs.length + cntR rs rs.length
theorem szRowS_ok (w : World) (S : Nat → Prop) (v : Value) (rs : List RowM) (k : Int) (hk : 0 ≤ k ∧ k ≤ 1048576) (hl : (cntRs rs : Int) ≤ k) (h : RowsV w S v rs) :
    Calls Try.prog 76 #[v, .int .i64 k] w fun e w' => e = .returned (.int .i64 (k - cntRs rs)) ∧ Up w w' := by
  obtain ⟨A, c, rfl, hlc, hcm, -⟩ := h.shape
  have H := Lib.hid h
  have HC : Hid (cntRs rs = rs.length + cntR rs rs.length) := Lib.hid rfl
  have HL := Lib.hid hl
  clear h hl
  have hd : decide (k - (rs.length : Int) < 0) = false := decide_eq_false (by have := HL.out; have := HC.out; omega)
  go_enter Try.func76, Try.ntmps76
  go_wp2
  go_loopw [1, 5] (fun q i wr => ∃ (j : Nat), j ≤ rs.length ∧ i = .int .i64 j ∧ q = .int .i64 (k - rs.length - cntR rs j) ∧ Hid (0 ≤ k - rs.length - cntR rs j) ∧ Hid (Up w wr)) (fun _ i _ => rs.length - (intOf i).toNat)
  case atStart => exact ⟨0, by omega, rfl, by simp [cntR], Lib.hid (by have := HL.out; have := HC.out; simp [cntR]; omega), Chg.refl _ _⟩
  case round =>
    obtain ⟨j, hj, rfl, rfl, hp, hu⟩ := hrel
    by_cases hlt : j < rs.length
    · obtain ⟨b, o, rfl, hc⟩ := (H.out.up hu.out).at_ hlt
      obtain ⟨A3, c3, f1, f2, f3, hv⟩ := (hc j hlt).val
      have HV := Lib.hid hv
      have HS := Lib.hid (cntR_succ hlt)
      have HM := Lib.hid (cntR_le (rs := rs) (show j + 1 ≤ rs.length by omega))
      obtain ⟨q, hq⟩ : ∃ q, q = k - (rs.length : Int) - cntR rs j := ⟨_, rfl⟩
      rw [← hq] at hp ⊢
      have HQ := Lib.hid hq
      have HB : Hid (0 ≤ q ∧ q ≤ 1048576) := Lib.hid (by have := hp.out; omega)
      clear hc hv hq
      have HX : Hid ((rs[j].xs.length : Int) ≤ q) := Lib.hid (by have h1 := HS.out; have h2 := HM.out; have h3 := HL.out; have h4 := HC.out; have h5 := HQ.out; omega)
      go_wp2_with fail
      with_reducible refine (szRow_ok _ _ _ _ _ HB.out HX.out HV.out).mono ?_
      rintro e w1 ⟨rfl, g1⟩
      have G1 := Lib.hid (Chg.trans hu.out g1)
      have hd2 : decide (q - (rs[j].xs.length : Int) < 0) = false := decide_eq_false (by have := HX.out; omega)
      clear f1 f2 f3 g1
      go_wp2
      go_roundw
      case rel => exact ⟨j + 1, by omega, by go_num, by rw [HS.out, HQ.out]; congr 1; omega, Lib.hid (by have h1 := HS.out; have h2 := HQ.out; have h3 := HX.out; omega), G1.out⟩
      case measure => first | (simp [intOf]; done) | (simp [intOf]; omega)
    · obtain rfl : j = rs.length := by omega
      go_wp2
      go_ret
      exact ⟨ret_int (by rw [HC.out]; omega), hu.out⟩
theorem szRowS_no (w : World) (S : Nat → Prop) (v : Value) (rs : List RowM) (k : Int) (hk : 0 ≤ k ∧ k ≤ 1048576) (hl : k < (cntRs rs : Int)) (h : RowsV w S v rs) :
    Calls Try.prog 76 #[v, .int .i64 k] w fun e w' => e = .returned (.int .i64 (-1)) ∧ Up w w' := by
  obtain ⟨A, c, rfl, hlc, hcm, -⟩ := h.shape
  have H := Lib.hid h
  have HC : Hid (cntRs rs = rs.length + cntR rs rs.length) := Lib.hid rfl
  have HL := Lib.hid hl
  clear h hl
  by_cases h0 : k < (rs.length : Int)
  · have hd : decide (k - (rs.length : Int) < 0) = true := decide_eq_true (by omega)
    go_enter Try.func76, Try.ntmps76
    go_wp2
    go_ret
    exact ⟨rfl, Chg.refl _ _⟩
  have hd : decide (k - (rs.length : Int) < 0) = false := decide_eq_false (by have := HL.out; have := HC.out; omega)
  go_enter Try.func76, Try.ntmps76
  go_wp2
  go_loopw [1, 5] (fun q i wr => ∃ (j : Nat), j ≤ rs.length ∧ i = .int .i64 j ∧ q = .int .i64 (k - rs.length - cntR rs j) ∧ Hid (0 ≤ k - rs.length - cntR rs j) ∧ Hid (Up w wr)) (fun _ i _ => rs.length - (intOf i).toNat)
  case atStart => exact ⟨0, by omega, rfl, by simp [cntR], Lib.hid (by have := HL.out; have := HC.out; simp [cntR]; omega), Chg.refl _ _⟩
  case round =>
    obtain ⟨j, hj, rfl, rfl, hp, hu⟩ := hrel
    by_cases hlt : j < rs.length
    · obtain ⟨b, o, rfl, hc⟩ := (H.out.up hu.out).at_ hlt
      obtain ⟨A3, c3, f1, f2, f3, hv⟩ := (hc j hlt).val
      have HV := Lib.hid hv
      have HS := Lib.hid (cntR_succ hlt)
      have HM := Lib.hid (cntR_le (rs := rs) (show j + 1 ≤ rs.length by omega))
      obtain ⟨q, hq⟩ : ∃ q, q = k - (rs.length : Int) - cntR rs j := ⟨_, rfl⟩
      rw [← hq] at hp ⊢
      have HQ := Lib.hid hq
      have HB : Hid (0 ≤ q ∧ q ≤ 1048576) := Lib.hid (by have := hp.out; omega)
      clear hc hv hq
      by_cases hx : (rs[j].xs.length : Int) ≤ q
      rotate_left
      · have HX : Hid (q < (rs[j].xs.length : Int)) := Lib.hid (by omega)
        clear hx
        go_wp2_with fail
        with_reducible refine (szRow_no _ _ _ _ _ HB.out HX.out HV.out).mono ?_
        rintro e w1 ⟨rfl, g1⟩
        have G1 := Lib.hid (Chg.trans hu.out g1)
        have hd2 : decide ((-1 : Int) < 0) = true := rfl
        clear f1 f2 f3 g1
        go_wp2
        go_ret
        exact ⟨by simp, G1.out⟩
      have HX := Lib.hid hx
      clear hx
      go_wp2_with fail
      with_reducible refine (szRow_ok _ _ _ _ _ HB.out HX.out HV.out).mono ?_
      rintro e w1 ⟨rfl, g1⟩
      have G1 := Lib.hid (Chg.trans hu.out g1)
      have hd2 : decide (q - (rs[j].xs.length : Int) < 0) = false := decide_eq_false (by have := HX.out; omega)
      clear f1 f2 f3 g1
      go_wp2
      go_roundw
      case rel => exact ⟨j + 1, by omega, by go_num, by rw [HS.out, HQ.out]; congr 1; omega, Lib.hid (by have h1 := HS.out; have h2 := HQ.out; have h3 := HX.out; omega), G1.out⟩
      case measure => first | (simp [intOf]; done) | (simp [intOf]; omega)
    · obtain rfl : j = rs.length := by omega
      exact absurd hp.out (by have := HL.out; have := HC.out; omega)
end Go.Proofs.Ytaopjpcclkkoiaa
set_option linter.unusedSimpArgs false
set_option linter.unusedVariables false
set_option maxRecDepth 100000
set_option maxHeartbeats 1000000
namespace Go.Proofs.Ytaopjpcclkkoiaa
open Go.ChangeShapes Go.WideShapes Go.ChangeAt Go.RowKit
theorem Copying.grow {w : World} {b m n j : Nat} {cs : List Value} (h : Copying w b m n j cs) (hl : cs.length = j * m) (vs : List Value) : Copying w b m n j (cs ++ vs) := fun t ht => by
  obtain ⟨h1, h2, h3⟩ := h t ht
  refine ⟨h1, h2, fun hlt => ?_⟩
  rw [h3 hlt, List.getElem?_append_left (by omega)]
theorem Chg.setCellsAt {S : Nat → Prop} {a : World} {b : Nat} (hb : S b) : ∀ (vs : List Value) (o : Nat) {w : World}, Chg S a w → Chg S a (w.setCells b o vs)
  | [], _, _, h => h
  | v :: r, o, _, h => Chg.setCellsAt hb r (o + 1) (h.setCell (.inl hb) v)
/-- the rows that were copied so far -/
def RowsIn (w : World) (g : Nat) (cs : List Value) (rs : List RowM) (j : Nat) : Prop :=
  ∀ i (hi : i < rs.length), i < j → ∃ A c, cs[i * 3]? = some (.int .i64 rs[i].d) ∧ cs[i * 3 + 1]? = some (.int .i64 rs[i].c) ∧ cs[i * 3 + 2]? = some (.slice A rs[i].xs.length c) ∧ Ints w (fun b => g < b) (.slice A rs[i].xs.length c) rs[i].xs ∧ rs[i].xs.length ≤ c ∧ c ≤ 9223372036854775807
theorem RowsIn.keep {S : Nat → Prop} {w w' : World} {g : Nat} {cs : List Value} {rs : List RowM} {j : Nat} (h : RowsIn w g cs rs j) (k : Chg S w w') (hS : ∀ b, b < w.heap.size → g < b → ¬ S b) : RowsIn w' g cs rs j := fun i hi hij =>
  let ⟨A, c, h1, h2, h3, h4, h5⟩ := h i hi hij; ⟨A, c, h1, h2, h3, h4.keep k hS, h5⟩
theorem RowsIn.next {w : World} {g : Nat} {cs : List Value} {rs : List RowM} {j : Nat} (h : RowsIn w g cs rs j) (hl : cs.length = j * 3) (hj : j < rs.length) {A : Option Addr} {c : Nat} (hi : Ints w (fun b => g < b) (.slice A rs[j].xs.length c) rs[j].xs) (h1 : rs[j].xs.length ≤ c) (h2 : c ≤ 9223372036854775807) :
    RowsIn w g (cs ++ [.int .i64 rs[j].d, .int .i64 rs[j].c, .slice A rs[j].xs.length c]) rs (j + 1) := fun i hi' hij => by
  by_cases he : i < j
  · obtain ⟨A', c', k1, k2, k3, k4⟩ := h i hi' he
    exact ⟨A', c', by rw [List.getElem?_append_left (by omega)]; exact k1, by rw [List.getElem?_append_left (by omega)]; exact k2, by rw [List.getElem?_append_left (by omega)]; exact k3, k4⟩
  · obtain rfl : i = j := by omega
    exact ⟨A, c, by rw [List.getElem?_append_right (by omega), hl]; simp, by rw [List.getElem?_append_right (by omega), hl]; simp, by rw [List.getElem?_append_right (by omega), hl]; simp, hi, h1, h2⟩
theorem infoRows : (Try.prog.info? 38).map (fun i => (i.zero, i.size, i.bytes)) = some (some (.agg #[.int .i64 0, .int .i64 0, .slice none 0 0]), 3, 40) := by kernel_rfl
theorem toRowS_any (w : World) (S : Nat → Prop) (v : Value) (rs : List RowM) (hb : cntRs rs ≤ 1048576) (h : RowsV w S v rs) :
    Calls Try.prog 79 #[v] w fun e w' => ∃ u, e = .returned u ∧ RowsV w' (New w.heap.size w'.heap.size) u rs ∧ Up w w' := by
  obtain ⟨A, c, rfl, hlc, hcm, -⟩ := h.shape
  have H := Lib.hid h
  have hbl : rs.length ≤ 1048576 := by unfold cntRs at hb; omega
  have HB := Lib.hid hb
  clear h hb
  obtain ⟨i0, hi, hz0, hz1, hz2⟩ := info_parts infoRows
  have hmk : ∀ u : World, (Instr.makeSlice 56 (.int .i64 (rs.length : Int)) (.int .i64 (rs.length : Int))).run Try.prog u =
      .ok (.slice (some ⟨u.heap.size, 0, none⟩) rs.length rs.length) (u.alloc (.cells (madeCells #[Value.int .i64 0, Value.int .i64 0, Value.slice none 0 0] (rs.length * 3)) 38)) := fun u => by
    have h := run_make (P := Try.prog) u 56 38 i0 (.agg #[.int .i64 0, .int .i64 0, .slice none 0 0]) Try.underlying56 hi hz0 .i64 .i64 (rs.length : Int) (rs.length : Int) (by omega) (Int.le_refl _) (by rw [hz2]; omega) (by omega)
    simpa [hz1, Value.cells] using h
  go_enter Try.func79, Try.ntmps79
  go_wp2
  have Hi := Lib.hid hmk
  clear hmk hi hz0 hz1 hz2
  go_loopw [4] (fun i wr => ∃ (j : Nat) (cs : List Value), j ≤ rs.length ∧ i = .int .i64 j ∧ Hid (Up w wr) ∧ w.heap.size < wr.heap.size ∧ Hid (cs.length = j * 3) ∧ Hid (Copying wr w.heap.size 3 rs.length j cs) ∧ Hid (RowsIn wr w.heap.size cs rs j)) (fun i _ => rs.length - (intOf i).toNat)
  case atStart => exact ⟨0, [], by omega, rfl, (Chg.refl _ _).alloc _, by simp, Lib.hid rfl, Copying.start _ _ _ _ _ _ (by simp [size_madeCells]), Lib.hid (fun i hi h => by omega)⟩
  case round =>
    obtain ⟨j, cs, hj, rfl, hg, hsz, hcl, hcs, hin⟩ := hrel
    by_cases hlt : j < rs.length
    · obtain ⟨b, o, rfl, hc⟩ := (H.out.up hg.out).at_ hlt
      obtain ⟨A3, c3, f1, f2, f3, hv⟩ := (hc j hlt).val
      have HV := Lib.hid hv
      have HBJ : Hid (cntInts rs[j].xs ≤ 8388608) := Lib.hid (by have h1 := cntR_succ hlt; have h2 := cntR_le (rs := rs) (show j + 1 ≤ rs.length by omega); have h3 := HB.out; unfold cntRs at h3; unfold cntInts; omega)
      clear hc hv
      go_wp2_with fail
      with_reducible refine (toRow_any _ _ _ rs[j] HBJ.out HV.out).mono ?_
      rintro e w2 ⟨u, rfl, k2, g2⟩
      obtain ⟨A4, c4, rfl, k4, hl4, hc4, -⟩ := k2.shape
      have hcs := Lib.hid (Copying.up hcs.out g2)
      have hin := Lib.hid (hin.out.keep g2 (fun _ _ _ h => h))
      have HG := Lib.hid (Chg.trans hg.out g2)
      have K4 := Lib.hid (k4.mono (T := fun b => w.heap.size < b) (fun b _ hb => by have := hb.1; omega))
      have hsz2 := Nat.lt_of_lt_of_le hsz g2.size
      clear g2 k2 k4 f1 f2 f3
      obtain ⟨u0, x0, q0⟩ := hcs.out.cell hlt 0 (by omega)
      obtain ⟨u1, x1, q1⟩ := hcs.out.cell hlt 1 (by omega)
      obtain ⟨u2, x2, q2⟩ := hcs.out.cell hlt 2 (by omega)
      rw [Nat.add_zero] at x0 q0
      go_wp2
      go_roundw
      case rel =>
        refine ⟨j + 1, cs ++ [.int .i64 rs[j].d, .int .i64 rs[j].c, .slice A4 rs[j].xs.length c4], by omega, by go_num, Chg.setCellsNew (Nat.le_refl _) [.int .i64 rs[j].d, .int .i64 rs[j].c, .slice A4 rs[j].xs.length c4] (j * 3) HG.out, ?_, Lib.hid (by rw [List.length_append, hcl.out]; simp; omega), Copying.next (Copying.grow hcs.out hcl.out _) hlt (vs := [.int .i64 rs[j].d, .int .i64 rs[j].c, .slice A4 rs[j].xs.length c4]) rfl (fun i hi => ?_), Lib.hid ((RowsIn.next hin.out hcl.out hlt K4.out hl4 hc4).keep (Chg.setCellsAt (S := fun b => b = w.heap.size) rfl [.int .i64 rs[j].d, .int .i64 rs[j].c, .slice A4 rs[j].xs.length c4] (j * 3) (Chg.refl _ _)) (fun b _ h1 h2 => by have h2 : b = w.heap.size := h2; omega))⟩
        · simpa [World.setCell] using hsz2
        · have e := hcl.out
          rw [List.getElem?_append_right (by omega), e, Nat.add_sub_cancel_left]
          exact List.getElem?_eq_getElem hi
      case measure => first | (simp [intOf]; done) | (simp [intOf]; omega)
    · obtain rfl : j = rs.length := by omega
      go_wp2
      go_ret
      refine ⟨_, rfl, ⟨_, _, rfl, Nat.le_refl _, by omega, fun hp => ⟨w.heap.size, 0, rfl, ⟨Nat.le_refl _, hsz⟩, fun i hi => ?_⟩, by simp⟩, hg.out⟩
      obtain ⟨b, o, -, hc⟩ := H.out.at_ hi
      obtain ⟨-, -, -, -, -, -, -, -, h7, -⟩ := hc i hi
      obtain ⟨A', c', k1, k2, k3, k4, k5, k6⟩ := hin.out i hi hi
      have e0 := ((hcs.out (i * 3) (by omega)).2.2 (by omega)).trans k1
      have e1 := ((hcs.out (i * 3 + 1) (by omega)).2.2 (by omega)).trans k2
      have e2 := ((hcs.out (i * 3 + 2) (by omega)).2.2 (by omega)).trans k3
      rw [Nat.zero_add]
      exact ⟨A', c', e0, e1, e2, k4.mono (fun b h1 h2 => ⟨by omega, h1⟩), k5, k6, h7, hsz⟩
end Go.Proofs.Ytaopjpcclkkoiaa
set_option linter.unusedSimpArgs false
set_option linter.unusedVariables false
set_option maxRecDepth 100000
set_option maxHeartbeats 1000000
namespace Go.Proofs.Ytaopjpcclkkoiaa
open Go.ChangeShapes Go.WideShapes Go.ChangeAt Go.RowKit
theorem openChart {w : World} {S : Nat → Prop} {v : Value} {b : ChartM} (h : ChartV w S v b) : ∃ A c, v = .agg #[.int .i64 b.n, .slice A b.rs.length c] ∧ RowsV w S (.slice A b.rs.length c) b.rs ∧ b.rs.length ≤ c ∧ c ≤ 9223372036854775807 := by
  obtain ⟨s, h1, h2, h3⟩ := h
  obtain ⟨A, c, rfl, h5, h6, h7⟩ := h2.shape
  exact ⟨A, c, h1, h2, h5, h6⟩
theorem szChart_ok (w : World) (S : Nat → Prop) (v : Value) (b : ChartM) (k : Int) (hk : 0 ≤ k ∧ k ≤ 1048576) (hl : (cntRs b.rs : Int) ≤ k) (h : ChartV w S v b) :
    Calls Try.prog 25 #[v, .int .i64 k] w fun e w' => e = .returned (.int .i64 (k - cntRs b.rs)) ∧ Up w w' := by
  obtain ⟨A, c, rfl, h4, h5, h6⟩ := openChart h
  have U0 := Lib.hid ((Chg.refl Nowhere w).alloc (.cells #[.int .i64 b.n, .slice A b.rs.length c] 52))
  have H := Lib.hid (h4.up U0.out)
  have q1 := (show (w.alloc (.cells #[.int .i64 b.n, .slice A b.rs.length c] 52)).cell? ⟨w.heap.size, 1, none⟩ = some (.slice A b.rs.length c) from cell_new _ _ _ _)
  have hd : decide (k - (cntRs b.rs : Int) < 0) = false := decide_eq_false (by omega)
  clear h h4
  go_enter Try.func25, Try.ntmps25
  go_wp2_with fail
  with_reducible refine (szRowS_ok _ S _ b.rs k hk hl H.out).mono ?_
  rintro e w1 ⟨rfl, g1⟩
  have G1 := Lib.hid (Chg.trans U0.out g1)
  clear g1 q1
  go_wp2
  go_ret
  exact ⟨rfl, G1.out⟩
theorem szChart_no (w : World) (S : Nat → Prop) (v : Value) (b : ChartM) (k : Int) (hk : 0 ≤ k ∧ k ≤ 1048576) (hl : k < (cntRs b.rs : Int)) (h : ChartV w S v b) :
    Calls Try.prog 25 #[v, .int .i64 k] w fun e w' => e = .returned (.int .i64 (-1)) ∧ Up w w' := by
  obtain ⟨A, c, rfl, h4, h5, h6⟩ := openChart h
  have U0 := Lib.hid ((Chg.refl Nowhere w).alloc (.cells #[.int .i64 b.n, .slice A b.rs.length c] 52))
  have H := Lib.hid (h4.up U0.out)
  have q1 := (show (w.alloc (.cells #[.int .i64 b.n, .slice A b.rs.length c] 52)).cell? ⟨w.heap.size, 1, none⟩ = some (.slice A b.rs.length c) from cell_new _ _ _ _)
  have hd : decide ((-1 : Int) < 0) = true := rfl
  clear h h4
  go_enter Try.func25, Try.ntmps25
  go_wp2_with fail
  with_reducible refine (szRowS_no _ S _ b.rs k hk hl H.out).mono ?_
  rintro e w1 ⟨rfl, g1⟩
  have G1 := Lib.hid (Chg.trans U0.out g1)
  clear g1 q1
  go_wp2
  go_ret
  exact ⟨rfl, G1.out⟩
theorem toChart_any (w : World) (S : Nat → Prop) (v : Value) (b : ChartM) (hb : cntRs b.rs ≤ 1048576) (h : ChartV w S v b) :
    Calls Try.prog 27 #[v] w fun e w' => ∃ u, e = .returned u ∧ ChartV w' (New w.heap.size w'.heap.size) u b ∧ Up w w' := by
  obtain ⟨A, c, rfl, h4, h5, h6⟩ := openChart h
  have I0 := Lib.hid h4
  have U0 := Lib.hid (Chg.refl Nowhere w)
  obtain ⟨_, _, _, hi1⟩ := h
  have HI1 := Lib.hid hi1
  clear h4 hi1
  have U_1 := Lib.hid (Chg.trans U0.out ((Chg.refl Nowhere w).alloc (.cells #[.int .i64 b.n, .slice A b.rs.length c] 52)))
  clear U0
  have I_2 := Lib.hid (I0.out.up ((Chg.refl Nowhere w).alloc (.cells #[.int .i64 b.n, .slice A b.rs.length c] 52)))
  clear I0
  have q0_3 := (show (w.alloc (.cells #[.int .i64 b.n, .slice A b.rs.length c] 52)).cell? ⟨w.heap.size, 0, none⟩ = some (.int .i64 b.n) from cell_new _ _ _ _)
  have q1_4 := (show (w.alloc (.cells #[.int .i64 b.n, .slice A b.rs.length c] 52)).cell? ⟨w.heap.size, 1, none⟩ = some (.slice A b.rs.length c) from cell_new _ _ _ _)
  have hbx5 : w.heap.size < (w.alloc (.cells #[.int .i64 b.n, .slice A b.rs.length c] 52)).heap.size := by simp
  go_enter Try.func27, Try.ntmps27
  go_wp2_with fail
  refine (toRowS_any _ S _ b.rs hb (I_2.out.up (by repeat (first | exact Chg.refl _ _ | apply Chg.drew | apply Chg.drewN | refine Chg.alloc ?_ _)))).mono ?_
  rintro e w6 ⟨v6, rfl, k1, g1⟩
  obtain ⟨A6, c6, rfl, hl6, hc6, -⟩ := k1.shape
  have K1 := Lib.hid k1
  clear k1
  have G1 := Lib.hid g1
  have hz6 := G1.out.size
  clear g1
  have U_7 := Lib.hid (Chg.trans U_1.out (Chg.trans (by repeat (first | exact Chg.refl _ _ | apply Chg.drew | apply Chg.drewN | refine Chg.alloc ?_ _)) G1.out))
  clear U_1
  have I_8 := Lib.hid (I_2.out.up (Chg.trans (by repeat (first | exact Chg.refl _ _ | apply Chg.drew | apply Chg.drewN | refine Chg.alloc ?_ _)) G1.out))
  clear I_2
  have q0_9 := Chg.cell (Chg.trans (by repeat (first | exact Chg.refl _ _ | apply Chg.drew | apply Chg.drewN | refine Chg.alloc ?_ _)) G1.out) q0_3 id
  clear q0_3
  have q1_10 := Chg.cell (Chg.trans (by repeat (first | exact Chg.refl _ _ | apply Chg.drew | apply Chg.drewN | refine Chg.alloc ?_ _)) G1.out) q1_4 id
  clear q1_4
  obtain ⟨x0_11c, x0_11f⟩ := (show CellF w6 ⟨w.heap.size + 1 + 1, 0, none⟩ (.int .i64 b.n) from CellF.up G1.out (by repeat (first | ((refine cellF_at ?_ rfl); (simp; done)) | refine CellF.up ((Chg.refl _ _).alloc _) ?_)))
  obtain ⟨x1_12c, x1_12f⟩ := (show CellF w6 ⟨w.heap.size + 1 + 1, 1, none⟩ (.slice none 0 0) from CellF.up G1.out (by repeat (first | ((refine cellF_at ?_ rfl); (simp; done)) | refine CellF.up ((Chg.refl _ _).alloc _) ?_)))
  obtain ⟨y0_13c, y0_13f⟩ := (show CellF w6 ⟨w.heap.size + 1, 0, none⟩ (.int .i64 0) from CellF.up G1.out (by repeat (first | ((refine cellF_at ?_ rfl); (simp; done)) | refine CellF.up ((Chg.refl _ _).alloc _) ?_)))
  obtain ⟨y1_14c, y1_14f⟩ := (show CellF w6 ⟨w.heap.size + 1, 1, none⟩ (.slice none 0 0) from CellF.up G1.out (by repeat (first | ((refine cellF_at ?_ rfl); (simp; done)) | refine CellF.up ((Chg.refl _ _).alloc _) ?_)))
  clear G1
  have K_15 := Lib.hid (K1.out)
  clear K1
  go_wp2
  have HC := Lib.hid (show Chg (fun b => b = w.heap.size + 1 ∨ b = w.heap.size + 1 + 1) w6 _ from Chg.setCell (Chg.setCell (Chg.setCell (Chg.refl _ _) (p := ⟨w.heap.size + 1 + 1, 1, none⟩) (.inl (.inr rfl)) (.slice A6 b.rs.length c6)) (p := ⟨w.heap.size + 1, 0, none⟩) (.inl (.inl rfl)) (.int .i64 b.n)) (p := ⟨w.heap.size + 1, 1, none⟩) (.inl (.inl rfl)) (.slice A6 b.rs.length c6))
  exact bodyPost_ret (v := .agg #[.int .i64 b.n, .slice A6 b.rs.length c6]) (by simp [results, Try.results27, go_sem, y0_13c, y1_14c]) rfl ⟨_, rfl, ⟨_, rfl, (K_15.out.keep HC.out (fun b _ hb hd => by have := hb.1; simp at this; omega)).mono (fun b _ hb => ⟨by have := hb.1; simp at this; omega, Nat.lt_of_lt_of_le hb.2 HC.out.size⟩), HI1.out⟩, Chg.new U_7.out HC.out (fun i hi hd => by omega)⟩
end Go.Proofs.Ytaopjpcclkkoiaa
set_option linter.unusedSimpArgs false
set_option linter.unusedVariables false
set_option maxRecDepth 100000
set_option maxHeartbeats 400000
namespace Go.Proofs.Ytaopjpcclkkoiaa
open Go.ChangeShapes Go.WideShapes Go.ChangeAt Go.RowKit
theorem eqRowS_same (w : World) (S T : Nat → Prop) (v u : Value) (rs : List RowM) (h : RowsV w S v rs) (h2 : RowsV w T u rs) :
    Calls Try.prog 82 #[v, u] w fun e w' => e = .returned (.bool true) ∧ Up w w' := by
  obtain ⟨A, c, rfl, hlc, hcm, -⟩ := h.shape
  obtain ⟨A2, c2, rfl, hlc2, hcm2, -⟩ := h2.shape
  have H := Lib.hid h
  have H2 := Lib.hid h2
  clear h h2
  go_enter Try.func82, Try.ntmps82
  go_wp2
  go_loopw [5] (fun i wr => ∃ (j : Nat), j ≤ rs.length ∧ i = .int .i64 j ∧ Hid (Up w wr)) (fun i _ => rs.length - (intOf i).toNat)
  case atStart => exact ⟨0, by omega, rfl, Chg.refl _ _⟩
  case round =>
    obtain ⟨j, hj, rfl, hu⟩ := hrel
    by_cases hlt : j < rs.length
    · obtain ⟨b, o, rfl, hc⟩ := (H.out.up hu.out).at_ hlt
      obtain ⟨b2, o2, rfl, hc2⟩ := (H2.out.up hu.out).at_ hlt
      obtain ⟨A3, c3, f1, f2, f3, hv⟩ := (hc j hlt).val
      obtain ⟨A4, c4, e1, e2, e3, hv2⟩ := (hc2 j hlt).val
      have HV := Lib.hid hv
      have HV2 := Lib.hid hv2
      clear hc hv hc2 hv2
      go_wp2
      have qf1 := up_cell f1
      have qf2 := up_cell f2
      have qf3 := up_cell f3
      have qe1 := up_cell e1
      have qe2 := up_cell e2
      have qe3 := up_cell e3
      clear f1 f2 f3 e1 e2 e3
      refine wp_region_up (by kernel_rfl) (by kernel_rfl) ?_
      repeat (go_big_quiet_step (first | (go_at_call 134; with_reducible exact calls_up (eqRow_same _ _ _ _ _ _ (HV.out.up (UpOf.up _)) (HV2.out.up (UpOf.up _))))))
      refine wpQuiet_nil ?_
      rintro _ ⟨u, rfl⟩
      go_wp2
      go_roundw
      case rel => exact ⟨j + 1, by omega, by go_num, Lib.hid (Chg.trans hu.out u.up)⟩
      case measure => first | (simp [intOf]; done) | (simp [intOf]; omega)
    · obtain rfl : j = rs.length := by omega
      go_wp2
      go_ret
      exact ⟨rfl, hu.out⟩
theorem eqChart_same (w : World) (S T : Nat → Prop) (v u : Value) (b : ChartM) (h : ChartV w S v b) (h2 : ChartV w T u b) :
    Calls Try.prog 29 #[v, u] w fun e w' => e = .returned (.bool true) ∧ Up w w' := by
  obtain ⟨A, c, rfl, h4, h5, h6⟩ := openChart h
  obtain ⟨A2, c2, rfl, h24, h25, h26⟩ := openChart h2
  have I0 := Lib.hid h4
  have J0 := Lib.hid h24
  have U0 := Lib.hid (Chg.refl Nowhere w)
  clear h4 h24 h h2
  have e1 : (b.n != b.n) = false := by simp
  have U_1 := Lib.hid (Chg.trans U0.out ((Chg.refl Nowhere w).alloc (.cells #[.int .i64 b.n, .slice A b.rs.length c] 58)))
  clear U0
  have I_2 := Lib.hid (I0.out.up ((Chg.refl Nowhere w).alloc (.cells #[.int .i64 b.n, .slice A b.rs.length c] 58)))
  clear I0
  have J_3 := Lib.hid (J0.out.up ((Chg.refl Nowhere w).alloc (.cells #[.int .i64 b.n, .slice A b.rs.length c] 58)))
  clear J0
  have q0_4 := (show (w.alloc (.cells #[.int .i64 b.n, .slice A b.rs.length c] 58)).cell? ⟨w.heap.size, 0, none⟩ = some (.int .i64 b.n) from cell_new _ _ _ _)
  have q1_5 := (show (w.alloc (.cells #[.int .i64 b.n, .slice A b.rs.length c] 58)).cell? ⟨w.heap.size, 1, none⟩ = some (.slice A b.rs.length c) from cell_new _ _ _ _)
  have hbx6 : w.heap.size < (w.alloc (.cells #[.int .i64 b.n, .slice A b.rs.length c] 58)).heap.size := by simp
  have U_7 := Lib.hid (Chg.trans U_1.out ((Chg.refl Nowhere (w.alloc (.cells #[.int .i64 b.n, .slice A b.rs.length c] 58))).alloc (.cells #[.int .i64 b.n, .slice A2 b.rs.length c2] 58)))
  clear U_1
  have I_8 := Lib.hid (I_2.out.up ((Chg.refl Nowhere (w.alloc (.cells #[.int .i64 b.n, .slice A b.rs.length c] 58))).alloc (.cells #[.int .i64 b.n, .slice A2 b.rs.length c2] 58)))
  clear I_2
  have J_9 := Lib.hid (J_3.out.up ((Chg.refl Nowhere (w.alloc (.cells #[.int .i64 b.n, .slice A b.rs.length c] 58))).alloc (.cells #[.int .i64 b.n, .slice A2 b.rs.length c2] 58)))
  clear J_3
  have q0_10 := Chg.cell ((Chg.refl Nowhere (w.alloc (.cells #[.int .i64 b.n, .slice A b.rs.length c] 58))).alloc (.cells #[.int .i64 b.n, .slice A2 b.rs.length c2] 58)) q0_4 id
  clear q0_4
  have q1_11 := Chg.cell ((Chg.refl Nowhere (w.alloc (.cells #[.int .i64 b.n, .slice A b.rs.length c] 58))).alloc (.cells #[.int .i64 b.n, .slice A2 b.rs.length c2] 58)) q1_5 id
  clear q1_5
  have p0_12 := (show ((w.alloc (.cells #[.int .i64 b.n, .slice A b.rs.length c] 58)).alloc (.cells #[.int .i64 b.n, .slice A2 b.rs.length c2] 58)).cell? ⟨(w.alloc (.cells #[.int .i64 b.n, .slice A b.rs.length c] 58)).heap.size, 0, none⟩ = some (.int .i64 b.n) from cell_new _ _ _ _)
  have p1_13 := (show ((w.alloc (.cells #[.int .i64 b.n, .slice A b.rs.length c] 58)).alloc (.cells #[.int .i64 b.n, .slice A2 b.rs.length c2] 58)).cell? ⟨(w.alloc (.cells #[.int .i64 b.n, .slice A b.rs.length c] 58)).heap.size, 1, none⟩ = some (.slice A2 b.rs.length c2) from cell_new _ _ _ _)
  have hbx14 : (w.alloc (.cells #[.int .i64 b.n, .slice A b.rs.length c] 58)).heap.size < ((w.alloc (.cells #[.int .i64 b.n, .slice A b.rs.length c] 58)).alloc (.cells #[.int .i64 b.n, .slice A2 b.rs.length c2] 58)).heap.size := by simp
  go_enter Try.func29, Try.ntmps29
  go_wp2_with fail
  refine (eqRowS_same _ S T _ _ b.rs (I_8.out.up (by repeat (first | exact Chg.refl _ _ | apply Chg.drew | apply Chg.drewN | refine Chg.alloc ?_ _))) (J_9.out.up (by repeat (first | exact Chg.refl _ _ | apply Chg.drew | apply Chg.drewN | refine Chg.alloc ?_ _)))).mono ?_
  rintro e w15 ⟨rfl, g1⟩
  have G1 := Lib.hid g1
  have hz15 := G1.out.size
  clear g1
  have U_16 := Lib.hid (Chg.trans U_7.out (Chg.trans (by repeat (first | exact Chg.refl _ _ | apply Chg.drew | apply Chg.drewN | refine Chg.alloc ?_ _)) G1.out))
  clear U_7
  have I_17 := Lib.hid (I_8.out.up (Chg.trans (by repeat (first | exact Chg.refl _ _ | apply Chg.drew | apply Chg.drewN | refine Chg.alloc ?_ _)) G1.out))
  clear I_8
  have J_18 := Lib.hid (J_9.out.up (Chg.trans (by repeat (first | exact Chg.refl _ _ | apply Chg.drew | apply Chg.drewN | refine Chg.alloc ?_ _)) G1.out))
  clear J_9
  have q0_19 := Chg.cell (Chg.trans (by repeat (first | exact Chg.refl _ _ | apply Chg.drew | apply Chg.drewN | refine Chg.alloc ?_ _)) G1.out) q0_10 id
  clear q0_10
  have q1_20 := Chg.cell (Chg.trans (by repeat (first | exact Chg.refl _ _ | apply Chg.drew | apply Chg.drewN | refine Chg.alloc ?_ _)) G1.out) q1_11 id
  clear q1_11
  have p0_21 := Chg.cell (Chg.trans (by repeat (first | exact Chg.refl _ _ | apply Chg.drew | apply Chg.drewN | refine Chg.alloc ?_ _)) G1.out) p0_12 id
  clear p0_12
  have p1_22 := Chg.cell (Chg.trans (by repeat (first | exact Chg.refl _ _ | apply Chg.drew | apply Chg.drewN | refine Chg.alloc ?_ _)) G1.out) p1_13 id
  clear p1_13
  clear G1
  go_wp2
  go_ret
  exact ⟨rfl, (Chg.trans U_16.out (by repeat (first | exact Chg.refl _ _ | apply Chg.drew | apply Chg.drewN | refine Chg.alloc ?_ _)))⟩
end Go.Proofs.Ytaopjpcclkkoiaa
namespace Go.Proofs.Ytaopjpcclkkoiaa
open Go.ChangeShapes Go.WideShapes Go.ChangeAt Go.RowKit Go.Deep
set_option maxRecDepth 100000 in
theorem dec_RowT {H : Type} {enc : TypeId × Value → H} {w : World} {n : Nat} {cs : List Value} {x : DataW H × List MemPlace}
    (h : DataW.trod enc Try.prog w 0 (fun _ => true) true n 158 cs = some x) (hz : ∀ b off, MemPlace.cell b off ∈ x.2 → w.frozen? ⟨b, off, none⟩ = false) :
    ∃ r : RowM, ∃ A c, cs = [.int .i64 r.d, .int .i64 r.c, .slice A r.xs.length c] ∧ Ints w (fun b => b < w.heap.size) (.slice A r.xs.length c) r.xs ∧ r.xs.length ≤ c ∧ c ≤ 9223372036854775807 ∧ I64 r.d ∧ I64 r.c := by
  obtain ⟨y0, y1, y2, m, rfl, hl, h0, h1, h2⟩ := trod_struct3 Try.underlying158 h
  have hl3 : cs.length = 3 := hl.trans (by kernel_rfl)
  obtain ⟨u0, u1, u2, rfl⟩ : ∃ a b c, cs = [a, b, c] := by
    match cs, hl3 with
    | [a, b, c], _ => exact ⟨a, b, c, rfl⟩
  have c1 : Try.prog.cellsOf 2 = 1 := by kernel_rfl
  have c2 : Try.prog.cellsOf 36 = 1 := by kernel_rfl
  simp only [c1, c2] at h0 h1 h2
  obtain ⟨a0, e0, -, w0⟩ := DataW.trod_int Try.underlying2 h0
  obtain ⟨a1, e1, -, w1⟩ := DataW.trod_int Try.underlying2 h1
  simp at e0 e1
  subst e0 e1
  obtain ⟨xs, hx⟩ := open_IntsT (u := u2) Try.underlying36 Try.underlying2 (by kernel_rfl) (by simpa using h2) (fun b off hm => hz b off (by simp [hm]))
  obtain ⟨A, c, rfl, k1, k2, k3⟩ := hx.shape
  exact ⟨⟨a0, a1, xs⟩, A, c, rfl, hx, k1, k2, I64.of_wf w0, I64.of_wf w1⟩
set_option maxRecDepth 100000 in
theorem open_RowsT {H : Type} {enc : TypeId × Value → H} {w : World} {n : Nat} {u : Value} {y : DataW H × List MemPlace}
    (h : DataW.trod enc Try.prog w 0 (fun _ => true) true n 50 [u] = some y) (hz : ∀ b off, MemPlace.cell b off ∈ y.2 → w.frozen? ⟨b, off, none⟩ = false) :
    ∃ rs, RowsV w (fun b => b < w.heap.size) u rs := by
  have hC : Try.prog.cellsOf 158 = 3 := by kernel_rfl
  rcases open_slice (e := 158) Try.underlying50 h with ⟨hcs, hx⟩ | ⟨a, len, cap, m, n, D, Pl, hcs, _, hl, hm, hmm, hx, hi⟩
  · simp at hcs
    subst hcs
    exact ⟨[], none, 0, rfl, by simp, by omega, fun h => by simp at h, by simp⟩
  · simp at hcs
    subst hcs
    simp at hmm
    rw [hC] at hi hx
    unfold Go.maxLen at hm
    obtain ⟨rs, hrl, hr⟩ := rows_of (Q := fun i (r : RowM) => ∃ A c, (∀ j v, ([Value.int .i64 r.d, .int .i64 r.c, .slice A r.xs.length c] : List Value)[j]? = some v → w.cell? (a.add (i * 3 + j)) = some v) ∧ Ints w (fun b => b < w.heap.size) (.slice A r.xs.length c) r.xs ∧ r.xs.length ≤ c ∧ c ≤ 9223372036854775807 ∧ I64 r.d ∧ I64 r.c) len (fun i hil => by
      obtain ⟨cs', hc, htr⟩ := hi i (by omega)
      obtain ⟨r, A, c, rfl, k1, k2⟩ := dec_RowT htr (fun b off hm9 => hz b off (by
        rw [hx]
        exact List.mem_append_right _ (List.mem_flatMap.2 ⟨i, by simp; omega, hm9⟩)))
      obtain ⟨_, hcl, hat⟩ := World.cells?_some hc
      refine ⟨r, A, c, fun j v hv => ?_, k1, k2⟩
      have hj : j < 3 := by
        obtain ⟨h1, _⟩ := List.getElem?_eq_some_iff.1 hv
        exact h1
      rw [← Go.Deep.add_add, hat j hj, hv])
    subst hrl
    refine ⟨rs, some a, cap, rfl, hl, by omega, fun hp => ?_, by simp⟩
    obtain ⟨b, o, s⟩ := a
    obtain ⟨A0, c0, q0, -⟩ := hr 0 hp
    have h0 := q0 0 _ rfl
    have hs : s = none := by simpa [Addr.add] using World.cell?_spot h0
    subst hs
    have hb : b < w.heap.size := by
      have := World.block_lt_of_cell? w _ h0
      simpa [Addr.add] using this
    refine ⟨b, o, rfl, hb, fun i hi' => ?_⟩
    obtain ⟨A, c, q, k1, k2, k3, k4⟩ := hr i hi'
    have g0 := q 0 _ rfl
    have g1 := q 1 _ rfl
    have g2 := q 2 _ rfl
    rw [Go.WideShapes.add_plain] at g0 g1 g2
    exact ⟨A, c, g0, g1, g2, k1, k2, k3, k4, hb⟩
set_option maxRecDepth 100000 in
theorem open_Chart {H : Type} {enc : TypeId × Value → H} {w : World} {v : Value} {d : DataW H} {p : List MemPlace} {base : Nat}
    (hv : Value.okWide Try.prog w .any base 52 v) (h : DataW.Trod enc Try.prog w 0 (fun _ => true) true 52 v d p)
    (hz : ∀ b off, MemPlace.cell b off ∈ p → w.frozen? ⟨b, off, none⟩ = false) : ∃ r, ChartV w (fun b => b < w.heap.size) v r := by
  obtain ⟨v0, v1, y0, y1, n, rfl, -, rfl, h0, h1⟩ := Go.Joins.open_agg2 Try.underlying52 (by kernel_rfl) (show Try.prog.cellsOf 52 = 2 by kernel_rfl) hv h
  obtain ⟨a0, e0, -, w0⟩ := DataW.trod_int Try.underlying2 h0
  simp only [List.cons.injEq, and_true] at e0
  subst e0
  obtain ⟨rs, hx⟩ := open_RowsT h1 (fun b off hm => hz b off (by simp [hm]))
  exact ⟨⟨a0, rs⟩, _, rfl, hx, I64.of_wf w0⟩
end Go.Proofs.Ytaopjpcclkkoiaa
namespace Go.Proofs.Ytaopjpcclkkoiaa
open Go.ChangeShapes Go.WideShapes Go.ChangeAt Go.RowKit
namespace fnExactLayoutWidth
set_option linter.unusedVariables false in
set_option maxRecDepth 100000 in
set_option maxHeartbeats 8000000 in
theorem walk0 (w : World) (v0 : Value) (a0 : ChartM) (ha0 : ChartV w (fun b => b < w.heap.size) v0 a0)  (hbt : (cntRs a0.rs : Int) ≤ 1048576) :
    Calls Try.prog 5 #[v0] w fun e w' => e = .returned (.bool true) ∧ Below w.heap.size w w' := by
  have U0 := Lib.hid (Chg.refl Nowhere w)
  obtain ⟨A0, c0, rfl, y0, hl0, hc0⟩ := openChart ha0
  have X0 := Lib.hid ha0
  clear ha0 y0
  have U_1 := Lib.hid (Chg.trans U0.out ((Chg.refl Nowhere w).alloc (.cells #[.int .i64 a0.n, .slice A0 a0.rs.length c0] 52)))
  clear U0
  have X0_2 := Lib.hid (X0.out.up ((Chg.refl Nowhere w).alloc (.cells #[.int .i64 a0.n, .slice A0 a0.rs.length c0] 52)))
  clear X0
  have q0_0_3 := (show (w.alloc (.cells #[.int .i64 a0.n, .slice A0 a0.rs.length c0] 52)).cell? ⟨w.heap.size, 0, none⟩ = some (.int .i64 a0.n) from cell_new _ _ _ _)
  have q0_1_4 := (show (w.alloc (.cells #[.int .i64 a0.n, .slice A0 a0.rs.length c0] 52)).cell? ⟨w.heap.size, 1, none⟩ = some (.slice A0 a0.rs.length c0) from cell_new _ _ _ _)
  have hbx5 : w.heap.size < (w.alloc (.cells #[.int .i64 a0.n, .slice A0 a0.rs.length c0] 52)).heap.size := by simp
  have hr0 : cntRs a0.rs ≤ 1048576 := by omega
  go_enter Try.func5, Try.ntmps5
  have hd0 : decide ((1048576 : Int) - cntRs a0.rs < 0) = false := decide_eq_false (by omega)
  go_wp2_with fail
  refine (szChart_ok _ _ _ a0 (1048576) (by omega) (by omega) (X0_2.out.up (by repeat (first | exact Chg.refl _ _ | apply Chg.drew | apply Chg.drewN | refine Chg.alloc ?_ _)))).mono ?_
  rintro e w6 ⟨rfl, g1⟩
  have G1 := Lib.hid g1
  obtain ⟨hy6, hz6⟩ := up_pre (show Up (w.alloc (.cells #[.int .i64 a0.n, .slice A0 a0.rs.length c0] 52)) _ from (by repeat (first | exact Chg.refl _ _ | apply Chg.drew | apply Chg.drewN | refine Chg.alloc ?_ _))) G1.out
  clear g1
  have U_7 := Lib.hid (Chg.trans U_1.out (Chg.trans (by repeat (first | exact Chg.refl _ _ | apply Chg.drew | apply Chg.drewN | refine Chg.alloc ?_ _)) G1.out))
  clear U_1
  have X0_8 := Lib.hid (X0_2.out.up (Chg.trans (by repeat (first | exact Chg.refl _ _ | apply Chg.drew | apply Chg.drewN | refine Chg.alloc ?_ _)) G1.out))
  clear X0_2
  have q0_0_9 := Chg.cell (Chg.trans (by repeat (first | exact Chg.refl _ _ | apply Chg.drew | apply Chg.drewN | refine Chg.alloc ?_ _)) G1.out) q0_0_3 id
  clear q0_0_3
  have q0_1_10 := Chg.cell (Chg.trans (by repeat (first | exact Chg.refl _ _ | apply Chg.drew | apply Chg.drewN | refine Chg.alloc ?_ _)) G1.out) q0_1_4 id
  clear q0_1_4
  clear G1
  go_wp2_with fail
  refine (toChart_any _ _ _ a0 (by omega) (X0_8.out.up (by repeat (first | exact Chg.refl _ _ | apply Chg.drew | apply Chg.drewN | refine Chg.alloc ?_ _)))).mono ?_
  rintro e w11 ⟨v11, rfl, k1, g1⟩
  have K1 := Lib.hid k1
  clear k1
  have G1 := Lib.hid g1
  obtain ⟨hy11, hz11⟩ := up_pre (show Up w6 _ from (by repeat (first | exact Chg.refl _ _ | apply Chg.drew | apply Chg.drewN | refine Chg.alloc ?_ _))) G1.out
  clear g1
  have U_12 := Lib.hid (Chg.trans U_7.out (Chg.trans (by repeat (first | exact Chg.refl _ _ | apply Chg.drew | apply Chg.drewN | refine Chg.alloc ?_ _)) G1.out))
  clear U_7
  have X0_13 := Lib.hid (X0_8.out.up (Chg.trans (by repeat (first | exact Chg.refl _ _ | apply Chg.drew | apply Chg.drewN | refine Chg.alloc ?_ _)) G1.out))
  clear X0_8
  have q0_0_14 := Chg.cell (Chg.trans (by repeat (first | exact Chg.refl _ _ | apply Chg.drew | apply Chg.drewN | refine Chg.alloc ?_ _)) G1.out) q0_0_9 id
  clear q0_0_9
  have q0_1_15 := Chg.cell (Chg.trans (by repeat (first | exact Chg.refl _ _ | apply Chg.drew | apply Chg.drewN | refine Chg.alloc ?_ _)) G1.out) q0_1_10 id
  clear q0_1_10
  clear G1
  have B0_16 := Lib.hid (K1.out)
  clear K1
  obtain ⟨As11, cs11, rfl, ys11, hls11, hcs11⟩ := openChart B0_16.out
  clear ys11
  go_wp2_with fail
  refine (sLayoutWidth_any _ _ _ a0 (B0_16.out.up (by repeat (first | exact Chg.refl _ _ | apply Chg.drew | apply Chg.drewN | refine Chg.alloc ?_ _)))).mono ?_
  rintro e w17 ⟨rfl, g1⟩
  have G1 := Lib.hid g1
  obtain ⟨hy17, hz17⟩ := up_pre (show Up w11 _ from (by repeat (first | exact Chg.refl _ _ | apply Chg.drew | apply Chg.drewN | refine Chg.alloc ?_ _))) G1.out
  clear g1
  have U_18 := Lib.hid (Chg.trans U_12.out (Chg.trans (by repeat (first | exact Chg.refl _ _ | apply Chg.drew | apply Chg.drewN | refine Chg.alloc ?_ _)) G1.out))
  clear U_12
  have X0_19 := Lib.hid (X0_13.out.up (Chg.trans (by repeat (first | exact Chg.refl _ _ | apply Chg.drew | apply Chg.drewN | refine Chg.alloc ?_ _)) G1.out))
  clear X0_13
  have q0_0_20 := Chg.cell (Chg.trans (by repeat (first | exact Chg.refl _ _ | apply Chg.drew | apply Chg.drewN | refine Chg.alloc ?_ _)) G1.out) q0_0_14 id
  clear q0_0_14
  have q0_1_21 := Chg.cell (Chg.trans (by repeat (first | exact Chg.refl _ _ | apply Chg.drew | apply Chg.drewN | refine Chg.alloc ?_ _)) G1.out) q0_1_15 id
  clear q0_1_15
  have B0_22 := Lib.hid (B0_16.out.up (Chg.trans (by repeat (first | exact Chg.refl _ _ | apply Chg.drew | apply Chg.drewN | refine Chg.alloc ?_ _)) G1.out))
  clear B0_16
  clear G1
  clear B0_22
  go_wp2_with fail
  refine (toChart_any _ _ _ a0 (by omega) (X0_19.out.up (by repeat (first | exact Chg.refl _ _ | apply Chg.drew | apply Chg.drewN | refine Chg.alloc ?_ _)))).mono ?_
  rintro e w23 ⟨v23, rfl, k1, g1⟩
  have K1 := Lib.hid k1
  clear k1
  have G1 := Lib.hid g1
  obtain ⟨hy23, hz23⟩ := up_pre (show Up w17 _ from (by repeat (first | exact Chg.refl _ _ | apply Chg.drew | apply Chg.drewN | refine Chg.alloc ?_ _))) G1.out
  clear g1
  have U_24 := Lib.hid (Chg.trans U_18.out (Chg.trans (by repeat (first | exact Chg.refl _ _ | apply Chg.drew | apply Chg.drewN | refine Chg.alloc ?_ _)) G1.out))
  clear U_18
  have X0_25 := Lib.hid (X0_19.out.up (Chg.trans (by repeat (first | exact Chg.refl _ _ | apply Chg.drew | apply Chg.drewN | refine Chg.alloc ?_ _)) G1.out))
  clear X0_19
  have q0_0_26 := Chg.cell (Chg.trans (by repeat (first | exact Chg.refl _ _ | apply Chg.drew | apply Chg.drewN | refine Chg.alloc ?_ _)) G1.out) q0_0_20 id
  clear q0_0_20
  have q0_1_27 := Chg.cell (Chg.trans (by repeat (first | exact Chg.refl _ _ | apply Chg.drew | apply Chg.drewN | refine Chg.alloc ?_ _)) G1.out) q0_1_21 id
  clear q0_1_21
  clear G1
  have C0_28 := Lib.hid (K1.out)
  clear K1
  obtain ⟨As23, cs23, rfl, ys23, hls23, hcs23⟩ := openChart C0_28.out
  clear ys23
  go_wp2_with fail
  refine (LayoutWidth_any _ _ _ a0 (C0_28.out.up (by repeat (first | exact Chg.refl _ _ | apply Chg.drew | apply Chg.drewN | refine Chg.alloc ?_ _)))).mono ?_
  rintro e w29 ⟨rfl, g1⟩
  have G1 := Lib.hid g1
  obtain ⟨hy29, hz29⟩ := up_pre (show Up w23 _ from (by repeat (first | exact Chg.refl _ _ | apply Chg.drew | apply Chg.drewN | refine Chg.alloc ?_ _))) G1.out
  clear g1
  have U_30 := Lib.hid (Chg.trans U_24.out (Chg.trans (by repeat (first | exact Chg.refl _ _ | apply Chg.drew | apply Chg.drewN | refine Chg.alloc ?_ _)) G1.out))
  clear U_24
  have X0_31 := Lib.hid (X0_25.out.up (Chg.trans (by repeat (first | exact Chg.refl _ _ | apply Chg.drew | apply Chg.drewN | refine Chg.alloc ?_ _)) G1.out))
  clear X0_25
  have q0_0_32 := Chg.cell (Chg.trans (by repeat (first | exact Chg.refl _ _ | apply Chg.drew | apply Chg.drewN | refine Chg.alloc ?_ _)) G1.out) q0_0_26 id
  clear q0_0_26
  have q0_1_33 := Chg.cell (Chg.trans (by repeat (first | exact Chg.refl _ _ | apply Chg.drew | apply Chg.drewN | refine Chg.alloc ?_ _)) G1.out) q0_1_27 id
  clear q0_1_27
  have C0_34 := Lib.hid (C0_28.out.up (Chg.trans (by repeat (first | exact Chg.refl _ _ | apply Chg.drew | apply Chg.drewN | refine Chg.alloc ?_ _)) G1.out))
  clear C0_28
  obtain ⟨x0_0_35c, x0_0_35f⟩ := (show CellF w29 ⟨w23.heap.size, 0, none⟩ (.int .i64 a0.n) from CellF.up G1.out (by repeat (first | ((refine cellF_at ?_ rfl); (simp; done)) | refine CellF.up ((Chg.refl _ _).alloc _) ?_)))
  obtain ⟨x0_1_36c, x0_1_36f⟩ := (show CellF w29 ⟨w23.heap.size, 1, none⟩ (.slice As23 a0.rs.length cs23) from CellF.up G1.out (by repeat (first | ((refine cellF_at ?_ rfl); (simp; done)) | refine CellF.up ((Chg.refl _ _).alloc _) ?_)))
  clear G1
  go_wp2
  go_region_held3 (fun w' => w'.cell? ⟨w.heap.size, 0, none⟩ = some (.int .i64 a0.n) ∧ w'.cell? ⟨w.heap.size, 1, none⟩ = some (.slice A0 a0.rs.length c0) ∧ w'.cell? ⟨w23.heap.size, 0, none⟩ = some (.int .i64 a0.n) ∧ w'.cell? ⟨w23.heap.size, 1, none⟩ = some (.slice As23 a0.rs.length cs23))
      (first | (exact ⟨q0_0_32, q0_1_33, x0_0_35c, x0_1_36c⟩) | (obtain ⟨p0, p1, p2, p3⟩ : (World.cell? _ _ = _ ∧ World.cell? _ _ = _ ∧ World.cell? _ _ = _ ∧ World.cell? _ _ = _) := (by assumption); exact ⟨Chg.cell g1 p0 id, Chg.cell g1 p1 id, Chg.cell g1 p2 id, Chg.cell g1 p3 id⟩))
      (first | (go_at_call 27; refine (toChart_any _ _ _ a0 (by omega) (X0_31.out.up (by repeat (first | exact Chg.refl _ _ | apply Chg.drew | apply Chg.drewN | refine Chg.alloc ?_ _)))).mono ?_; rintro e w37 ⟨v37, rfl, k1, g1⟩; obtain ⟨As37, cs37, rfl, ys37, hls37, hcs37⟩ := openChart k1; have K1 := Lib.hid k1; clear k1 ys37; have G1 := Lib.hid g1; obtain ⟨hy37, hz37⟩ := up_pre (show Up w29 _ from (by repeat (first | exact Chg.refl _ _ | apply Chg.drew | apply Chg.drewN | refine Chg.alloc ?_ _))) G1.out; have U_39 := Lib.hid (Chg.trans U_30.out (Chg.trans (by repeat (first | exact Chg.refl _ _ | apply Chg.drew | apply Chg.drewN | refine Chg.alloc ?_ _)) G1.out)); have X0_40 := Lib.hid (X0_31.out.up (Chg.trans (by repeat (first | exact Chg.refl _ _ | apply Chg.drew | apply Chg.drewN | refine Chg.alloc ?_ _)) G1.out)); have C0_41 := Lib.hid (C0_34.out.up (Chg.trans (by repeat (first | exact Chg.refl _ _ | apply Chg.drew | apply Chg.drewN | refine Chg.alloc ?_ _)) G1.out))) | (go_at_call 29; refine (eqChart_same _ _ _ _ _ a0 (C0_41.out.up (by repeat (first | exact Chg.refl _ _ | apply Chg.drew | apply Chg.drewN | refine Chg.alloc ?_ _))) (K1.out.up (by repeat (first | exact Chg.refl _ _ | apply Chg.drew | apply Chg.drewN | refine Chg.alloc ?_ _)))).mono ?_; rintro e w38 ⟨rfl, g1⟩; have G2 := Lib.hid g1; obtain ⟨hy38, hz38⟩ := up_pre (show Up w37 _ from (by repeat (first | exact Chg.refl _ _ | apply Chg.drew | apply Chg.drewN | refine Chg.alloc ?_ _))) G2.out; have U_42 := Lib.hid (Chg.trans U_39.out (Chg.trans (by repeat (first | exact Chg.refl _ _ | apply Chg.drew | apply Chg.drewN | refine Chg.alloc ?_ _)) G2.out)); have X0_43 := Lib.hid (X0_40.out.up (Chg.trans (by repeat (first | exact Chg.refl _ _ | apply Chg.drew | apply Chg.drewN | refine Chg.alloc ?_ _)) G2.out)); have C0_44 := Lib.hid (C0_41.out.up (Chg.trans (by repeat (first | exact Chg.refl _ _ | apply Chg.drew | apply Chg.drewN | refine Chg.alloc ?_ _)) G2.out))))
  have q0_0_45 := Chg.cell (Chg.trans (Chg.trans (by repeat (first | exact Chg.refl _ _ | apply Chg.drew | apply Chg.drewN | refine Chg.alloc ?_ _)) G1.out) (Chg.trans (by repeat (first | exact Chg.refl _ _ | apply Chg.drew | apply Chg.drewN | refine Chg.alloc ?_ _)) G2.out)) q0_0_32 id
  have q0_1_46 := Chg.cell (Chg.trans (Chg.trans (by repeat (first | exact Chg.refl _ _ | apply Chg.drew | apply Chg.drewN | refine Chg.alloc ?_ _)) G1.out) (Chg.trans (by repeat (first | exact Chg.refl _ _ | apply Chg.drew | apply Chg.drewN | refine Chg.alloc ?_ _)) G2.out)) q0_1_33 id
  obtain ⟨x0_0_47c, x0_0_47f⟩ := CellF.up (Chg.trans (Chg.trans (by repeat (first | exact Chg.refl _ _ | apply Chg.drew | apply Chg.drewN | refine Chg.alloc ?_ _)) G1.out) (Chg.trans (by repeat (first | exact Chg.refl _ _ | apply Chg.drew | apply Chg.drewN | refine Chg.alloc ?_ _)) G2.out)) ⟨x0_0_35c, x0_0_35f⟩
  obtain ⟨x0_1_48c, x0_1_48f⟩ := CellF.up (Chg.trans (Chg.trans (by repeat (first | exact Chg.refl _ _ | apply Chg.drew | apply Chg.drewN | refine Chg.alloc ?_ _)) G1.out) (Chg.trans (by repeat (first | exact Chg.refl _ _ | apply Chg.drew | apply Chg.drewN | refine Chg.alloc ?_ _)) G2.out)) ⟨x0_1_36c, x0_1_36f⟩
  clear g1 G1 G2 K1
  clear U_30
  clear X0_31
  clear q0_0_32
  clear q0_1_33
  clear C0_34
  clear x0_0_35c x0_0_35f
  clear x0_1_36c x0_1_36f
  clear U_39
  clear X0_40
  clear C0_41
  go_wp2
  go_ret
  exact ⟨rfl, Up.below (Chg.trans U_42.out (by repeat (first | exact Chg.refl _ _ | apply Chg.drew | apply Chg.drewN | refine Chg.alloc ?_ _)))⟩
set_option maxRecDepth 100000 in
theorem walk (w : World) (v0 : Value) (a0 : ChartM) (ha0 : ChartV w (fun b => b < w.heap.size) v0 a0) :
    Calls Try.prog 5 #[v0] w fun e w' => e = .returned (.bool true) ∧ Below w.heap.size w w' := by
  by_cases hbt : (cntRs a0.rs : Int) ≤ 1048576
  rotate_left
  · skip
    obtain ⟨A0, c0, rfl, y0, hl0, hc0⟩ := openChart ha0
    have X0 := Lib.hid ha0
    clear ha0 y0
    have U0 := Lib.hid (Chg.refl Nowhere w)
    have hd : decide ((-1 : Int) < 0) = true := rfl
    have U_1 := Lib.hid (Chg.trans U0.out ((Chg.refl Nowhere w).alloc (.cells #[.int .i64 a0.n, .slice A0 a0.rs.length c0] 52)))
    clear U0
    have X_2 := Lib.hid (X0.out.up ((Chg.refl Nowhere w).alloc (.cells #[.int .i64 a0.n, .slice A0 a0.rs.length c0] 52)))
    clear X0
    have q0_3 := (show (w.alloc (.cells #[.int .i64 a0.n, .slice A0 a0.rs.length c0] 52)).cell? ⟨w.heap.size, 0, none⟩ = some (.int .i64 a0.n) from cell_new _ _ _ _)
    have q1_4 := (show (w.alloc (.cells #[.int .i64 a0.n, .slice A0 a0.rs.length c0] 52)).cell? ⟨w.heap.size, 1, none⟩ = some (.slice A0 a0.rs.length c0) from cell_new _ _ _ _)
    have hbx5 : w.heap.size < (w.alloc (.cells #[.int .i64 a0.n, .slice A0 a0.rs.length c0] 52)).heap.size := by simp
    go_enter Try.func5, Try.ntmps5
    go_wp2_with fail
    refine (szChart_no _ _ _ a0 1048576 (by omega) (by omega) (X_2.out.up (by repeat (first | exact Chg.refl _ _ | apply Chg.drew | apply Chg.drewN | refine Chg.alloc ?_ _)))).mono ?_
    rintro e w6 ⟨rfl, g1⟩
    have G1 := Lib.hid g1
    have hz6 := G1.out.size
    clear g1
    have U_7 := Lib.hid (Chg.trans U_1.out (Chg.trans (by repeat (first | exact Chg.refl _ _ | apply Chg.drew | apply Chg.drewN | refine Chg.alloc ?_ _)) G1.out))
    clear U_1
    have X_8 := Lib.hid (X_2.out.up (Chg.trans (by repeat (first | exact Chg.refl _ _ | apply Chg.drew | apply Chg.drewN | refine Chg.alloc ?_ _)) G1.out))
    clear X_2
    have q0_9 := Chg.cell (Chg.trans (by repeat (first | exact Chg.refl _ _ | apply Chg.drew | apply Chg.drewN | refine Chg.alloc ?_ _)) G1.out) q0_3 id
    clear q0_3
    have q1_10 := Chg.cell (Chg.trans (by repeat (first | exact Chg.refl _ _ | apply Chg.drew | apply Chg.drewN | refine Chg.alloc ?_ _)) G1.out) q1_4 id
    clear q1_4
    clear G1
    go_wp2
    go_ret
    exact ⟨rfl, Up.below (Chg.trans U_7.out (by repeat (first | exact Chg.refl _ _ | apply Chg.drew | apply Chg.drewN | refine Chg.alloc ?_ _)))⟩
  exact walk0 w v0 a0 ha0 hbt
end fnExactLayoutWidth
end Go.Proofs.Ytaopjpcclkkoiaa
