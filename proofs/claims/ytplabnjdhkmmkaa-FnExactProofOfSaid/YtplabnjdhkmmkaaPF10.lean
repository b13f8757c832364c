/- A normal form is multiplied by a permutation. No condition. The normal form of a word, letter by letter. No condition. ValidNormal on both sides. No condition. The reference settles all neighbours at once. No condition. Words without letters that cancel: both sides. No condition but room. -/
import Derived.Test.YtplabnjdhkmmkaaPF9
import Derived.Deep.RegionLaw
import Derived.StillTailTactics
import Derived.Deep.DeepCutAuto
import Derived.Test.YtplabnjdhkmmkaaPF8
import Derived.Test.YtplabnjdhkmmkaaPF7
import Derived.Test.YtplabnjdhkmmkaaPF2
import Derived.Deep.RegionHeld3
import Derived.Test.YtplabnjdhkmmkaaPF6
section
set_option maxRecDepth 100000
set_option maxHeartbeats 4000000
set_option linter.unusedSimpArgs false
set_option linter.unusedVariables false
set_option maxRecDepth 100000
namespace Go.Proofs.Ytplabnjdhkmmkaa
open Go.ChangeShapes Go.WideShapes Go.ChangeAt Go.RowKit
def readF (w : World) (bx : Nat) : List (List Int) := match w.cell? ⟨bx, 2, none⟩ with
  | some (.slice (some a) len _) => (List.range len).map fun i => match w.cell? ⟨a.block, a.off + i, none⟩ with | some (.slice (some b) m _) => readI w b.block m | _ => []
  | _ => []
theorem NBx.read {w : World} {bx base top n : Nat} {Q : Int} {L : List (List Int)} {v : Value} (h : NBx w bx base top n Q L v) : readF w bx = L := by
  have hc := h.c2.1
  rcases h.fr with ⟨rfl, rfl⟩ | ⟨g, o, cap, q, rfl, hF⟩
  · unfold readF; rw [hc]
  · unfold readF
    rw [hc]
    refine List.ext_getElem (by simp) fun i h1 h2 => ?_
    obtain ⟨k, c1, i1, -⟩ := hF.hd i h2
    simp only [List.getElem_map, List.getElem_range, c1]
    exact i1.readI
theorem NBx.pushed {w a w' : World} {bx base top n : Nat} {Q : Int} {L L' : List (List Int)} {v v' : Value} (h : NBx w bx base top n Q L v) (g : Up w a) (hc : Chg (fun y => base ≤ y ∧ y < top) a w') (hf : FRow w' base w'.heap.size v' L') :
    NBx (w'.setCell ⟨bx, 2, none⟩ v') bx base (w'.setCell ⟨bx, 2, none⟩ v').heap.size n Q L' v' ∧ Chg (fun b => b = bx ∨ base ≤ b) w (w'.setCell ⟨bx, 2, none⟩ v') := by
  have hlt := h.lt
  have hsz : (w'.setCell ⟨bx, 2, none⟩ v').heap.size = w'.heap.size := by simp [World.setCell]
  have gb := box_chg w' bx 2 v'
  have hn : ¬ (base ≤ bx ∧ bx < top) := by omega
  have k0 := (CellF.up g h.c0).chg hc hn
  have k1 := (CellF.up g h.c1).chg hc hn
  have k2 := (CellF.up g h.c2).chg hc hn
  rw [hsz]
  refine ⟨⟨k0.set_ne (by intro e; injection e with _ e2; omega), k1.set_ne (by intro e; injection e with _ e2; omega), CellF.set k2, hf.keep gb (fun b hb _ e => by have e : b = bx := e; omega), hlt, by rw [hsz]; exact Nat.le_refl _⟩, ?_⟩
  exact Chg.trans (Chg.of_up g) (Chg.trans (hc.mono (fun _ _ e => .inr e.1)) (gb.mono (fun _ _ e => .inl e)))
theorem NBx.len {w : World} {bx base top n m k : Nat} {Q : Int} {L : List (List Int)} {A : Option Addr} (h : NBx w bx base top n Q L (.slice A m k)) : L.length = m := by
  obtain ⟨A', c, e, -⟩ := h.fr.shape
  injection e with _ e _
  exact e.symm
theorem NBx.more {w : World} {bx base top top' n : Nat} {Q : Int} {L : List (List Int)} {v : Value} (h : NBx w bx base top n Q L v) (h1 : top ≤ top') (h2 : top' ≤ w.heap.size) : NBx w bx base top' n Q L v := ⟨h.c0, h.c1, h.c2, h.fr.more (Nat.le_refl _) h1, h.lt, h2⟩
def bN : Value → Nat
  | .bool true => 1
  | _ => 0
/-- two neighbours of the rows, and what is left when they have been weighed -/
theorem NBx.two {w : World} {bx base top n : Nat} {Q : Int} {L : List (List Int)} {v : Value} (h : NBx w bx base top n Q L v) (hA : AllP n L) {i : Nat} (hi : i + 1 < L.length) :
    ∃ g o c bp bq kp kq, v = .slice (some ⟨g, o, none⟩) L.length c ∧ w.cell? ⟨g, o + i, none⟩ = some (.slice (some ⟨bp, 0, none⟩) n kp) ∧ w.cell? ⟨g, o + (i + 1), none⟩ = some (.slice (some ⟨bq, 0, none⟩) n kq) ∧ bp ≠ bq ∧ (base ≤ bp ∧ bp < top) ∧ (base ≤ bq ∧ bq < top) ∧
      Ints w (fun x => x = bp) (.slice (some ⟨bp, 0, none⟩) n kp) (fac2 L i) ∧ Ints w (fun x => x = bq) (.slice (some ⟨bq, 0, none⟩) n kq) (fac2 L (i + 1)) ∧ PermP n (fac2 L i) ∧ PermP n (fac2 L (i + 1)) ∧
      ∀ (w0 w' : World) (p' q' : List Int), Up w w0 → Ints w' (fun x => x = bp) (.slice (some ⟨bp, 0, none⟩) n kp) p' → Ints w' (fun x => x = bq) (.slice (some ⟨bq, 0, none⟩) n kq) q' → Chg (fun x => x = bp ∨ x = bq) w0 w' → NBx w' bx base top n Q ((L.set i p').set (i + 1) q') v := by
  have hlt := h.lt
  have htp := h.tp
  rcases h.fr with ⟨-, rfl⟩ | ⟨g, o, cap, q, hv, hF⟩
  · simp at hi
  obtain ⟨kp, c1, i1, e1⟩ := hF.hd i (by omega)
  obtain ⟨kq, c2, i2, e2⟩ := hF.hd (i + 1) hi
  have hp := hA _ (List.getElem_mem (show i < L.length by omega))
  have hq := hA _ (List.getElem_mem hi)
  have hb1 := hF.qb i (by omega)
  have hb2 := hF.qb (i + 1) hi
  have hne : q i ≠ q (i + 1) := fun e => by have := hF.qi i (i + 1) (by omega) hi e; omega
  rw [hp.len] at c1 i1
  rw [hq.len] at c2 i2
  refine ⟨g, o, cap, q i, q (i + 1), kp, kq, hv, c1, c2, hne, ⟨hb1.1, hb1.2.1⟩, ⟨hb2.1, hb2.2.1⟩, by rw [fac2_eq (by omega)]; exact i1, by rw [fac2_eq hi]; exact i2, by rw [fac2_eq (by omega)]; exact hp, by rw [fac2_eq hi]; exact hq, fun w0 w' p' q' hu j1 j2 hc => ?_⟩
  have hnb : ¬ (bx = q i ∨ bx = q (i + 1)) := by omega
  refine ⟨(CellF.up hu h.c0).chg hc hnb, (CellF.up hu h.c1).chg hc hnb, (CellF.up hu h.c2).chg hc hnb, .inr ⟨g, o, cap, q, by rw [List.length_set, List.length_set]; exact hv, ?_⟩, hlt, Nat.le_trans (Nat.le_trans htp hu.size) hc.size⟩
  refine (hF.up hu).turn hc (by omega) (by rw [List.length_set, List.length_set]) fun m h1 h2 => ?_
  rw [List.getElem_set, List.getElem_set]
  have l1 := ints_len j1
  have l2 := ints_len j2
  by_cases m1 : i + 1 = m
  · subst m1
    rw [if_pos rfl]
    have hl : L[i + 1].length = n := hq.len
    refine .inr ⟨by omega, fun k hk => ?_⟩
    rw [l2]
    obtain ⟨A, c', he, a1, a2, a3, a4, a5⟩ := j2
    obtain ⟨A3, c3, he3, b1, b2, -, -, b5⟩ := hk
    injection he with x1 x2 x3
    injection he3 with y1 y2 y3
    subst x1 y1
    exact ⟨_, k, by rw [l2], by omega, by omega, a3, a4, fun e => by cases e⟩
  · rw [if_neg m1]
    by_cases m2 : i = m
    · subst m2
      rw [if_pos rfl]
      have hl : L[i].length = n := hp.len
      refine .inr ⟨by omega, fun k hk => ?_⟩
      rw [l1]
      obtain ⟨A, c', he, a1, a2, a3, a4, a5⟩ := j1
      obtain ⟨A3, c3, he3, b1, b2, -, -, b5⟩ := hk
      injection he with x1 x2 x3
      injection he3 with y1 y2 y3
      subst x1 y1
      exact ⟨_, k, by rw [l1], by omega, by omega, a3, a4, fun e => by cases e⟩
    · rw [if_neg m2]
      refine .inl ⟨rfl, fun e => ?_⟩
      rcases e with e | e
      · have := hF.qi m i (by omega) (by omega) e; omega
      · have := hF.qi m (i + 1) (by omega) hi e; omega
theorem up_of_chg {S : Nat → Prop} {a b w w1 : World} (_h : Chg S a b) (g : Up w w1) (k : Up w1 a) : Up w a := Chg.trans g k
theorem OwnI.blk {w : World} {base : Nat} {v : Value} {xs : List Int} (h : OwnI w base v xs) (hp : 0 < xs.length) : ∃ g c, v = .slice (some ⟨g, 0, none⟩) xs.length c ∧ (base ≤ g ∧ g < w.heap.size) ∧ Ints w (fun y => y = g) (.slice (some ⟨g, 0, none⟩) xs.length c) xs ∧ (xs.length ≤ c ∧ c ≤ 9223372036854775807) := by
  obtain ⟨A, c, rfl, h1, h2, h3, h4, h5⟩ := h.ints
  obtain ⟨b, o, rfl, hb, hl, hc⟩ := h4 hp
  have ho : o = 0 := by
    rcases h.1.2 with ⟨e, -⟩ | ⟨g, cap, cur, e, -⟩
    · cases e
    · injection e with e _ _
      injection e with e
      injection e with _ e2 _
  subst ho
  exact ⟨b, c, rfl, hb, ⟨_, c, rfl, h1, h2, h3, fun _ => ⟨b, 0, rfl, rfl, hl, hc⟩, h5⟩, h1, h2⟩
theorem clone0_any (w : World) (S : Nat → Prop) (v : Value) (xs : List Int) (h : Ints w S v xs) (hl : xs.length ≤ 100000) (hpos : 0 < xs.length) :
    Calls Try.prog 113 #[v] w fun e w' => ∃ b c, e = .returned (.slice (some ⟨b, 0, none⟩) xs.length c) ∧ (w.heap.size ≤ b ∧ b < w'.heap.size) ∧ Ints w' (fun y => y = b) (.slice (some ⟨b, 0, none⟩) xs.length c) xs ∧ (xs.length ≤ c ∧ c ≤ 9223372036854775807) ∧ Up w w' := by
  obtain ⟨A, c, rfl, hlc, hcm, -⟩ := h.shape
  have H := Lib.hid h
  have M0 := Lib.hid (OwnI.made w w.heap.size (Nat.le_refl _))
  have HL := Lib.hid (show ([] : List Int).length + xs.length ≤ 1099511627776 by simp; omega)
  clear h
  have hq := fun u : World => eql_nil (P := Try.prog) u 23 2 A xs.length c Try.underlying23
  cases A with
  | none =>
    obtain ⟨_, _, he, _, _, _, _, hnn⟩ := H.out
    have hz : xs = [] := by
      rcases Nat.eq_zero_or_pos xs.length with h0 | h0
      · exact List.eq_nil_of_length_eq_zero h0
      · obtain ⟨_, _, h1, _⟩ := H.out.ix h0; cases h1
    exact absurd hpos (by rw [hz]; simp)
  | some a =>
    go_enter Try.func113, Try.ntmps113
    go_wp2_with (first | (at_builtin; refine wp_app_intsW rfl _ _ rfl w.heap.size _ ([] : List Int) rfl M0.out _ _ xs rfl (H.out.up (by repeat (first | exact Chg.refl _ _ | apply Chg.drew | apply Chg.drewN | refine Chg.alloc ?_ _))) HL.out (by simp) ?_; intro v' w1 ho1 _ _ hg1; have HO := Lib.hid ho1; have HG := Lib.hid (Chg.new ((Chg.refl Nowhere w).alloc _) hg1 (fun i hi => by omega)); clear ho1 hg1))
    go_ret
    have HX := HO.out
    rw [List.nil_append] at HX
    obtain ⟨g, c', rfl, k1, k2, k3⟩ := HX.blk hpos
    exact ⟨g, c', rfl, k1, k2, k3, HG.out⟩
theorem times_any (w : World) (bx base top n : Nat) (Q : Int) (L : List (List Int)) (v : Value) (S : Nat → Prop) (vx : Value) (x : List Int) (h : NBx w bx base top n Q L v) (hx : Ints w S vx x) (hxp : PermP n x) (ha : AllP n L) (hn : 2 ≤ n) (hn2 : n ≤ 12) (hl : L.length ≤ 100000) (hq : -1000000 ≤ Q ∧ Q ≤ 1000000) (hbs : base ≤ w.heap.size) :
    Calls Try.prog 83 #[.pointer (some ⟨bx, 0, none⟩), vx] w fun e w' => e = .returned (.tuple #[]) ∧ (∃ T F' v' c d, NBx w' bx base w'.heap.size n (Q + (c : Nat)) F' v' ∧ Stps (L ++ [x]) T ∧ Term T ∧ Dec n T c F' d) ∧ Chg (fun b => b = bx ∨ base ≤ b) w w' := by
  have HX := Lib.hid hx
  have HXP := Lib.hid hxp
  have HA := Lib.hid ha
  have H := Lib.hid h
  have hxl : x.length = n := hxp.len
  have hpos : 0 < x.length := by omega
  have hxl2 : x.length ≤ 100000 := by omega
  have HXL := Lib.hid hxl
  clear hxl
  obtain ⟨e2, z2⟩ := h.c2
  have HTP := Lib.hid h.tp
  have HLT := Lib.hid h.lt
  obtain ⟨Ax, cx, rfl, -, -, -⟩ := hx.shape
  obtain ⟨A0, c0, rfl, hl0, hc0, hn0⟩ := h.fr.shape
  clear h hx hxp ha hl0 hc0 hn0
  go_enter Try.func83, Try.ntmps83
  go_upto_region 0 with fail
  go_cut [6] (fun _ wx => ∃ (A5 : Option Addr) (k5 : Nat), Hid (NBx wx bx base wx.heap.size n Q (L ++ [x]) (.slice A5 (L ++ [x]).length k5)) ∧ Hid (Chg (fun b => b = bx ∨ base ≤ b) w wx))
  case first =>
    go_wp2
    go_region_law (first | (go_simp; go_at_call 113; (with_reducible refine (clone0_any _ S _ x ((show Ints w S _ x from HX.out).up (by repeat (first | exact Chg.refl _ _ | apply Chg.drew | apply Chg.drewN | refine Chg.alloc ?_ _))) hxl2 hpos).mono ?_); rintro e w1 ⟨b1, k1, rfl, hb1, hi1, hk1, g1⟩; have G1 := Lib.hid (show Up w w1 from Chg.trans (by repeat (first | exact Chg.refl _ _ | apply Chg.drew | apply Chg.drewN | refine Chg.alloc ?_ _)) g1); have HI1 := Lib.hid hi1; have HK1 := Lib.hid hk1; have HB1 := Lib.hid (show w.heap.size ≤ b1 ∧ b1 < w1.heap.size from ⟨by have := hb1.1; simpa using this, hb1.2⟩); have p2 := Chg.cell G1.out H.out.c2.1 id; have p3 := Chg.cell ((Chg.refl Nowhere w1).alloc (.cells #[.slice (some ⟨b1, 0, none⟩) x.length k1] 23)) p2 id; clear g1 hi1 hk1 hb1) | (refine step_append_frow rfl (.tmp 10) (.tmp 13) rfl base top (.slice A0 L.length c0) L (by simp [Act.eval, Act.put]) (H.out.fr.up (Chg.trans G1.out (show Up w1 _ from by repeat (first | exact Chg.refl _ _ | apply Chg.drew | refine Chg.alloc ?_ _)))) w1.heap.size x b1 k1 (by simp [Act.eval, Act.put]) (by simp [cell_new]) (HI1.out.up (show Up w1 _ from by repeat (first | exact Chg.refl _ _ | apply Chg.drew | refine Chg.alloc ?_ _))) HK1.out (by have := HB1.out; omega) (by have := HB1.out; have := HTP.out; omega) (Nat.lt_of_lt_of_le HB1.out.2 (Chg.size (show Up w1 _ from by repeat (first | exact Chg.refl _ _ | apply Chg.drew | refine Chg.alloc ?_ _)))) (Nat.le_trans (Nat.le_trans HTP.out G1.out.size) (Chg.size (show Up w1 _ from by repeat (first | exact Chg.refl _ _ | apply Chg.drew | refine Chg.alloc ?_ _)))) (by omega) ?_; intro v' w' h1 h2; obtain ⟨A5, k5, rfl, -⟩ := h1.shape; have GG := Lib.hid h1; have GC := Lib.hid h2; have GU := Lib.hid (up_of_chg h2 G1.out (show Up w1 _ from by repeat (first | exact Chg.refl _ _ | apply Chg.drew | refine Chg.alloc ?_ _))); obtain ⟨q1, q2⟩ := CellF.chg (CellF.up GU.out H.out.c2) h2 (fun e => by have e : base ≤ bx ∧ bx < top := e; have := HLT.out; omega); clear h1 h2))
    all_goals (go_wp2_with fail; go_meet)
    all_goals (obtain ⟨hB, hC⟩ := H.out.pushed GU.out GC.out GG.out; exact ⟨A5, k5, by first | exact Lib.hid hB | (have hB2 := Lib.hid hB; rw [List.length_append] at hB2 ⊢; exact hB2) | (simp only [List.length_append, List.length_cons, List.length_nil] at hB ⊢; exact Lib.hid hB), by first | exact Lib.hid hC | (simp only [List.length_append, List.length_cons, List.length_nil] at hC ⊢; exact Lib.hid hC)⟩)
  case rest =>
    obtain ⟨A5, k5, hnb, hch⟩ := hcut
    obtain ⟨wk, hwk⟩ : ∃ x, x = wc := ⟨_, rfl⟩
    subst hwk
    have HAL := Lib.hid (show AllP n (L ++ [x]) from HA.out.app (fun p hp => by rw [List.mem_singleton.1 hp]; exact HXP.out))
    obtain ⟨M, hM⟩ : ∃ M, M = L ++ [x] := ⟨_, rfl⟩
    have HML := Lib.hid (show M.length = L.length + 1 by rw [hM]; simp)
    rw [← hM] at hnb HAL
    have HM := Lib.hid hM
    have HMB := Lib.hid (show 1 ≤ M.length ∧ M.length ≤ 100001 by have := HML.out; omega)
    clear hM e2 z2
    go_wp2
    go_loopw [4] (fun a wr => ∃ (L1 : List (List Int)) (m : Bool), a = .bool m ∧ Hid (NBx wr bx base wk.heap.size n Q L1 (.slice A5 M.length k5)) ∧ Hid (Stps M L1) ∧ Hid (m = false → Term L1) ∧ Hid (Chg (fun b => base ≤ b ∧ b < wk.heap.size) wk wr)) (fun a wr => 2 * mu 0 (readF wr bx) + bN a)
    case atStart => exact ⟨M, true, rfl, hnb, Lib.hid (.refl _), Lib.hid (fun e => by cases e), Lib.hid (Chg.refl _ _)⟩
    case round =>
      obtain ⟨L1, m, rfl, hx1, hs1, ht1, hg1⟩ := hrel
      have HRD := Lib.hid hx1.out.read
      have HA1 := Lib.hid (hs1.out.allP HAL.out)
      cases m with
      | false =>
        have HT := Lib.hid (ht1.out rfl)
        obtain ⟨c, F', d, hdec⟩ := dec hn HA1.out HT.out
        have HD := Lib.hid hdec
        have HLL := Lib.hid hx1.out.len
        go_wp2_with fail
        refine (tidy_any wr bx base wk.heap.size n c d Q L1 F' _ hx1.out hdec hn hn2 (by have := HLL.out; have := HMB.out; omega) hq HA1.out).mono ?_
        rintro e w3 ⟨rfl, ⟨v', hB⟩, hC⟩
        have HBB := Lib.hid hB
        have HCC := Lib.hid hC
        clear hB hC hdec
        go_wp2
        go_end0
        exact ⟨rfl, ⟨L1, F', v', c, d, HBB.out.more (Nat.le_trans hg1.out.size HCC.out.size) (Nat.le_refl _), by rw [← HM.out]; exact hs1.out, HT.out, HD.out⟩, Chg.trans hch.out (Chg.trans (hg1.out.mono (fun _ _ e => .inr e.1)) (HCC.out.mono (fun _ _ e => .inl e)))⟩
      | true =>
        have HLL := Lib.hid hx1.out.len
        obtain ⟨l, hl1⟩ : ∃ l, M.length = l + 1 := ⟨M.length - 1, by have := HMB.out; omega⟩
        have HL1 := Lib.hid hl1
        have HLB := Lib.hid (show l ≤ 100000 by have := HMB.out; omega)
        rw [hl1] at hx1
        have e2 := hx1.out.c2.1
        obtain ⟨w0, hw0⟩ : ∃ x, x = wr := ⟨_, rfl⟩
        subst hw0
        have wl : IntKind.i64.wrap ((l : Int) + 1 - 2) = (l : Int) - 1 := by rw [show (l : Int) + 1 - 2 = (l : Int) - 1 by omega]; exact IntWalk.i64_in _ (by have := HLB.out; omega)
        clear hl1
        go_wp2
        go_loopw [4, 5] (fun a i wr => ∃ (L2 : List (List Int)) (ag : Bool) (j : Nat), j ≤ l ∧ a = .bool ag ∧ i = .int .i64 ((j : Int) - 1) ∧ Hid (NBx wr bx base wk.heap.size n Q L2 (.slice A5 (l + 1) k5)) ∧ Hid (Pass n L1 L2 ag j) ∧ Hid (Chg (fun b => base ≤ b ∧ b < wk.heap.size) w0 wr)) (fun _ i _ => (intOf i + 1).toNat)
        case atStart => exact ⟨L1, false, l, Nat.le_refl _, rfl, by first | rfl | (simp; done) | (simp; omega), by first | exact hx1 | exact Lib.hid (hx1.out.up (by repeat (first | exact Chg.refl _ _ | apply Chg.drew | apply Chg.drewN | refine Chg.alloc ?_ _))), Lib.hid (Pass.start n L1 (by have := HLL.out; have := HL1.out; omega)), by first | exact Lib.hid (Chg.refl _ _) | exact Lib.hid (Chg.of_up (by repeat (first | exact Chg.refl _ _ | apply Chg.drew | apply Chg.drewN | refine Chg.alloc ?_ _)))⟩
        case round =>
          obtain ⟨L2, ag, j, hj, rfl, rfl, hx2, hp2, hg2⟩ := hrel
          have HA2 := Lib.hid (hp2.out.run.allP HA1.out)
          have HLE := Lib.hid hp2.out.len
          by_cases hj0 : j = 0
          · subst hj0
            have hneg : decide ((0 : Int) ≤ -1) = false := by decide
            have HPP := Lib.hid (show NBx wr bx base wk.heap.size n Q L2 (.slice A5 M.length k5) from by rw [HL1.out]; exact hx2.out)
            have HRE := Lib.hid hx2.out.read
            go_wp2
            go_roundw
            case rel => exact ⟨L2, ag, rfl, HPP, Lib.hid (hs1.out.trans hp2.out.run), Lib.hid (fun e => by subst e; exact hp2.out.term HA1.out), Lib.hid (Chg.trans hg1.out hg2.out)⟩
            case measure =>
              rw [HRE.out, HRD.out]
              cases hag : ag with
              | true => have := hp2.out.some hag; simp only [bN]; omega
              | false => rw [(hp2.out.none hag).1]; simp only [bN]; omega
          obtain ⟨i, rfl⟩ : ∃ i, j = i + 1 := ⟨j - 1, by omega⟩
          have hi2 : i + 1 < L2.length := by have := HLE.out; have := HLL.out; have := HL1.out; omega
          obtain ⟨g, o, c, bp, bq, kp, kq, hv, c1, c2, hne, hbp, hbq, i1, i2, hpp, hpq, hset⟩ := hx2.out.two HA2.out hi2
          obtain ⟨rfl, hll, rfl⟩ : A5 = some ⟨g, o, none⟩ ∧ l + 1 = L2.length ∧ k5 = c := by injection hv with x1 x2 x3; exact ⟨x1, x2, x3⟩
          have e2 := hx2.out.c2.1
          have I1 := Lib.hid i1
          have I2 := Lib.hid i2
          have HPP := Lib.hid (And.intro hpp hpq)
          have HBP := Lib.hid (And.intro hbp hbq)
          have HST := Lib.hid hset
          have HI2 := Lib.hid hi2
          have hii : decide ((0 : Int) ≤ ((i + 1 : Nat) : Int) - 1) = true := decide_eq_true (by omega)
          have hil : (i : Int) < (l : Int) + 1 := by omega
          have hil2 : (i : Int) + 1 < (l : Int) + 1 := by omega
          have hi0 : (0 : Int) ≤ (i : Int) := by omega
          have hi1 : (0 : Int) ≤ (i : Int) + 1 := by omega
          have wii : IntKind.i64.wrap ((i : Int) + 1) = (i : Int) + 1 := IntWalk.i64_in _ (by have := HLB.out; omega)
          have hcast : (((i + 1 : Nat) : Int) - 1) = (i : Int) := by omega
          rw [hcast] at hii ⊢
          have HNE := Lib.hid hne
          have hito : ((i : Int) + 1).toNat = i + 1 := by omega
          clear hv i1 i2 hpp hpq hbp hbq hset hi2 hcast hne hll
          go_wp2
          go_still_tail 15, (by kernel_rfl)
          go_wp2_with fail
          refine (weigh_any _ n bp bq kp kq _ _ HPP.out.1 HPP.out.2 hn2 HNE.out (I1.out.up (by repeat (first | exact Chg.refl _ _ | apply Chg.drew | apply Chg.drewN | refine Chg.alloc ?_ _))) (I2.out.up (by repeat (first | exact Chg.refl _ _ | apply Chg.drew | apply Chg.drewN | refine Chg.alloc ?_ _)))).mono ?_
          rintro e w4 ⟨p', q', rfl, j1, j2, hw, hc⟩
          have HB4 := Lib.hid (HST.out wr.drew w4 p' q' (by repeat (first | exact Chg.refl _ _ | apply Chg.drew | apply Chg.drewN | refine Chg.alloc ?_ _)) j1 j2 hc)
          have HP4 := Lib.hid (hp2.out.next HA1.out HI2.out hw)
          have HG4 := Lib.hid (show Chg (fun b => base ≤ b ∧ b < wk.heap.size) w0 w4 from Chg.trans hg2.out (Chg.trans (Chg.of_up (by repeat (first | exact Chg.refl _ _ | apply Chg.drew | apply Chg.drewN | refine Chg.alloc ?_ _))) (hc.mono (fun x _ e => by have h1 := HBP.out; rcases e with e | e <;> (subst e; omega)))))
          clear j1 j2 hw hc
          obtain ⟨d, hd⟩ : ∃ d, d = decide (extraM (fac2 L2 i) (fac2 L2 (i + 1)) ≠ 0) := ⟨_, rfl⟩
          rw [← hd] at HP4 ⊢
          clear hd e2 c1 c2 wii
          have wi2 : IntKind.i64.wrap ((i : Int) - 1) = (i : Int) - 1 := IntWalk.i64_in _ (by have := HLB.out; omega)
          cases d
          · rw [Bool.or_false] at HP4
            go_wp2
            go_roundw
            case rel => exact ⟨_, ag, i, by omega, rfl, by first | rfl | go_num, HB4, HP4, HG4⟩
            case measure => first | (simp [intOf]; done) | (simp [intOf]; omega)
          · rw [Bool.or_true] at HP4
            go_wp2
            go_roundw
            case rel => exact ⟨_, true, i, by omega, rfl, by first | rfl | go_num, HB4, HP4, HG4⟩
            case measure => first | (simp [intOf]; done) | (simp [intOf]; omega)
end Go.Proofs.Ytplabnjdhkmmkaa
end
section
set_option maxRecDepth 100000
set_option maxHeartbeats 4000000
set_option linter.unusedSimpArgs false
set_option linter.unusedVariables false
namespace Go.Proofs.Ytplabnjdhkmmkaa
open Go.ChangeShapes Go.WideShapes Go.ChangeAt Go.RowKit
theorem FRow.head {w : World} {base top : Nat} {v : Value} {L : List (List Int)} (h : FRow w base top v L) : ∀ g o n c, v = .slice (some ⟨g, o, none⟩) n c → base ≤ g ∧ g < top := fun g o n c e => by
  rcases h with ⟨rfl, -⟩ | ⟨g', o', cap, q, rfl, hF⟩
  · cases e
  · injection e with e _ _
    injection e with e
    injection e with e _ _
    subst e
    exact ⟨hF.bg, hF.lt⟩
theorem ints_lt {w : World} {b n k : Nat} {p : List Int} (h : Ints w (fun x => x = b) (.slice (some ⟨b, 0, none⟩) n k) p) (hp : 0 < p.length) : b < w.heap.size := by
  obtain ⟨A, c, -, -, -, -, hr, -⟩ := h
  obtain ⟨b', o, -, e, hl, -⟩ := hr hp
  subst e
  exact hl
def flipTo (L : List (List Int)) (j : Nat) : List (List Int) := (L.take j).map flipP ++ L.drop j
theorem flipTo_zero (L : List (List Int)) : flipTo L 0 = L := by simp [flipTo]
theorem flipTo_all (L : List (List Int)) : flipTo L L.length = L.map flipP := by simp [flipTo]
theorem flipTo_length (L : List (List Int)) (j : Nat) : (flipTo L j).length = L.length := by simp [flipTo]; omega
theorem flipTo_at {L : List (List Int)} {j : Nat} (h : j < L.length) : (flipTo L j)[j]'(by rw [flipTo_length]; exact h) = L[j] := by
  unfold flipTo
  rw [List.getElem_append_right (by simp; omega)]
  simp [Nat.min_eq_left (show j ≤ L.length by omega)]
theorem flipTo_set {L : List (List Int)} {j : Nat} (h : j < L.length) : (flipTo L j).set j (flipP L[j]) = flipTo L (j + 1) := by
  unfold flipTo
  rw [List.take_succ_eq_append_getElem h, List.map_append, List.map_cons, List.map_nil, List.append_assoc, List.set_append_right _ _ (by simp; omega)]
  congr 1
  simp only [List.length_map, List.length_take, Nat.min_eq_left (show j ≤ L.length by omega), Nat.sub_self]
  rw [← List.getElem_cons_drop h]
  rfl
theorem flipTo_allP {n : Nat} {L : List (List Int)} (ha : AllP n L) (j : Nat) : AllP n (flipTo L j) := fun p hp => by
  rcases List.mem_append.1 hp with hp | hp
  · obtain ⟨r, hr, rfl⟩ := List.mem_map.1 hp
    exact (ha r (List.mem_of_mem_take hr)).flip
  · exact ha p (List.mem_of_mem_drop hp)
theorem NBx.row {w : World} {bx base top n : Nat} {Q : Int} {L : List (List Int)} {v : Value} (h : NBx w bx base top n Q L v) (hA : AllP n L) {i : Nat} (hi : i < L.length) :
    ∃ g o c b k, v = .slice (some ⟨g, o, none⟩) L.length c ∧ w.cell? ⟨g, o + i, none⟩ = some (.slice (some ⟨b, 0, none⟩) n k) ∧ w.frozen? ⟨g, o + i, none⟩ = false ∧ base ≤ g ∧ bx ≠ g ∧ Ints w (fun x => x = b) (.slice (some ⟨b, 0, none⟩) n k) L[i] ∧
      ∀ (w1 : World) (b' k' : Nat) (r : List Int), Up w w1 → Ints w1 (fun x => x = b') (.slice (some ⟨b', 0, none⟩) r.length k') r → (r.length ≤ k' ∧ k' ≤ 9223372036854775807) → base ≤ b' → top ≤ b' → b' < w1.heap.size → NBx (w1.setCell ⟨g, o + i, none⟩ (.slice (some ⟨b', 0, none⟩) r.length k')) bx base w1.heap.size n Q (L.set i r) v ∧ Chg (fun x => x = g) w1 (w1.setCell ⟨g, o + i, none⟩ (.slice (some ⟨b', 0, none⟩) r.length k')) := by
  have hlt := h.lt
  rcases h.fr with ⟨-, rfl⟩ | ⟨g, o, cap, q, hv, hF⟩
  · simp at hi
  obtain ⟨k, c1, i1, -⟩ := hF.hd i hi
  have hlc := hF.lc
  have hbg := hF.bg
  rw [(hA _ (List.getElem_mem hi)).len] at c1 i1
  refine ⟨g, o, cap, q i, k, hv, c1, (hF.sp i (by omega)).2, hbg, by omega, i1, fun w1 b' k' r hu hr hk h1 h2 h3 => ?_⟩
  have hC : Chg (fun x => x = g) w1 (w1.setCell ⟨g, o + i, none⟩ (.slice (some ⟨b', 0, none⟩) r.length k')) := Chg.setCell (Chg.refl (fun x => x = g) w1) (p := ⟨g, o + i, none⟩) (.inl (show g = g from rfl)) _
  have hnb : ¬ bx = g := by omega
  refine ⟨⟨(CellF.up hu h.c0).chg hC hnb, (CellF.up hu h.c1).chg hC hnb, (CellF.up hu h.c2).chg hC hnb, .inr ⟨g, o, cap, _, by rw [List.length_set]; exact hv, (hF.up hu).put hi hr hk h1 h2 _ h3⟩, hlt, by simp [World.setCell]⟩, hC⟩
theorem flipAll_any (w : World) (bx base top n : Nat) (Q : Int) (L : List (List Int)) (v : Value) (h : NBx w bx base top n Q L v) (ha : AllP n L) (hn : 2 ≤ n) (hn2 : n ≤ 12) (hl : L.length ≤ 100000) (hbs : base ≤ w.heap.size) :
    Calls Try.prog 80 #[.pointer (some ⟨bx, 0, none⟩)] w fun e w' => e = .returned (.tuple #[]) ∧ NBx w' bx base w'.heap.size n Q (L.map flipP) v ∧ Chg (fun x => base ≤ x ∧ x < top) w w' := by
  have HA := Lib.hid ha
  have H := Lib.hid (h.more h.tp (Nat.le_refl _))
  have e2 := h.c2.1
  have hgt := h.fr.head
  obtain ⟨A0, c0, rfl, hl0, hc0, hn0⟩ := h.fr.shape
  have HGT := Lib.hid hgt
  have HLT := Lib.hid h.lt
  have HLT2 := Lib.hid hn
  clear h ha hl0 hc0 hn0 hgt
  go_enter Try.func80, Try.ntmps80
  go_wp2
  clear e2
  go_loopw [2, 3, 9] (fun _ _ i wr => ∃ j : Nat, j ≤ L.length ∧ i = .int .i64 (j : Int) ∧ Hid (NBx wr bx base wr.heap.size n Q (flipTo L j) (.slice A0 L.length c0)) ∧ Hid (Chg (fun x => base ≤ x ∧ x < top) w wr)) (fun _ _ i _ => L.length - (intOf i).toNat)
  case atStart => exact ⟨0, by omega, rfl, by rw [flipTo_zero]; exact H, Lib.hid (Chg.refl _ _)⟩
  case round =>
    obtain ⟨j, hj, rfl, hx, hg⟩ := hrel
    by_cases hlt : j < L.length
    rotate_left
    · obtain rfl : j = L.length := by omega
      have htd : decide ((L.length : Int) < (L.length : Int)) = false := decide_eq_false (by omega)
      go_wp2
      go_end0
      exact ⟨rfl, by have h1 := hx.out; rw [flipTo_all] at h1; exact h1, hg.out⟩
    have hlf : j < (flipTo L j).length := by rw [flipTo_length]; exact hlt
    obtain ⟨g, o, c, b, kk, hv, c1, z1, hbg, hne, i1, hput⟩ := hx.out.row (flipTo_allP HA.out j) hlf
    obtain ⟨rfl, rfl⟩ : A0 = some ⟨g, o, none⟩ ∧ c0 = c := by injection hv with x1 x2 x3; exact ⟨x1, x3⟩
    have e2 := hx.out.c2.1
    rw [flipTo_at hlt] at i1
    obtain ⟨p, hp⟩ : ∃ p, p = L[j] := ⟨_, rfl⟩
    have HPP := Lib.hid (show PermP n p by rw [hp]; exact HA.out _ (List.getElem_mem hlt))
    rw [← hp] at i1
    have HPE := Lib.hid hp
    have I1 := Lib.hid i1
    have HPT := Lib.hid hput
    have hpl := ints_len i1
    have HPL := Lib.hid hpl
    have htd : decide ((j : Int) < (L.length : Int)) = true := decide_eq_true (by omega)
    have hj0 : (0 : Int) ≤ (j : Int) := by omega
    have hjl : (j : Int) < (L.length : Int) := by omega
    have hsz := hx.out.tp
    have HSZ := Lib.hid (show w.heap.size ≤ wr.heap.size from hg.out.size)
    clear hv i1 hput hp hpl hlf
    go_wp2
    go_region_law (first | (go_simp; go_at_call 111; (with_reducible refine (flip_any _ _ _ p (n := n) ((show Ints wr (fun x => x = b) _ p from I1.out).up (by repeat (first | exact Chg.refl _ _ | apply Chg.drew | apply Chg.drewN | refine Chg.alloc ?_ _))) HPP.out hn2).mono ?_); rintro e w1 ⟨rfl, k1, g1⟩; rw [HPL.out] at k1 ⊢; have K1 := Lib.hid k1; have G1 := Lib.hid (show Up wr w1 from Chg.trans (by repeat (first | exact Chg.refl _ _ | apply Chg.drew | apply Chg.drewN | refine Chg.alloc ?_ _)) g1); have HS1 := Lib.hid (show wr.heap.size < w1.heap.size from Nat.lt_of_le_of_lt (Nat.le_refl _) (by have := ints_lt k1 (by rw [flipP_length]; have := HPP.out.len; have := HLT2.out; omega); simpa using this)); have p1 := Chg.cell G1.out c1 id; have p2 := Chg.cell G1.out e2 id; have y1 := (Chg.frozen G1.out c1 id).trans z1; clear k1 g1))
    all_goals (have HE := (show (flipP p).length = n from by rw [flipP_length]; exact HPL.out); have hP := HPT.out w1 wr.heap.size n (flipP p) G1.out (by rw [HE]; exact K1.out) (by rw [HE]; exact ⟨Nat.le_refl _, by omega⟩) (by have := HSZ.out; omega) (Nat.le_refl _) HS1.out; rw [HE] at hP; have HP2 := Lib.hid hP; clear hP HE; go_wp2; go_roundw; (case rel => exact ⟨j + 1, by omega, by go_num, Lib.hid (by rw [← flipTo_set hlt, ← HPE.out]; have h1 := HP2.out.1; have h2 : (w1.setCell ⟨g, o + j, none⟩ (.slice (some ⟨wr.heap.size, 0, none⟩) n n)).heap.size = w1.heap.size := (by simp [World.setCell]); first | (rw [h2]; exact h1) | (have h3 := h1.up (by repeat (first | exact Chg.refl _ _ | apply Chg.drew | apply Chg.drewN | refine Chg.alloc ?_ _)); exact h3.more (by simp) (by simp))), Lib.hid (by have hM := HP2.out.2.mono (T := fun x => base ≤ x ∧ x < top) (fun x _ e => by subst e; exact HGT.out _ _ _ _ rfl); first | exact Chg.trans hg.out (Chg.trans (Chg.of_up G1.out) hM) | exact Chg.trans hg.out (Chg.trans (Chg.of_up G1.out) (Chg.trans hM (Chg.of_up (by repeat (first | exact Chg.refl _ _ | apply Chg.drew | apply Chg.drewN | refine Chg.alloc ?_ _))))))⟩); (case measure => (first | (simp [intOf]; done) | (simp [intOf]; omega))))
theorem rawM_len (n : Nat) (word : List Int) : (rawM n word).2.length = word.length := by
  have key : ∀ (w : List Int) (s : Int × List (List Int)), (w.foldl (rawStep n) s).2.length = s.2.length + w.length := by
    intro w
    induction w with
    | nil => intro s; simp
    | cons x w ih =>
      intro s
      rw [List.foldl_cons, ih]
      unfold rawStep
      split <;> simp <;> omega
  have := key word (0, [])
  simpa [rawM] using this
theorem negs_le : ∀ w : List Int, negs w ≤ w.length
  | [] => Nat.le_refl _
  | x :: w => by have := negs_le w; rw [negs, List.length_cons]; split <;> omega
theorem Stps.len {A B : List (List Int)} (h : Stps A B) : B.length = A.length := by
  have key : ∀ {A B : List (List Int)}, Stp A B → B.length = A.length := by
    intro A B h
    induction h with
    | here => rfl
    | there h ih => simp [ih]
  induction h with
  | refl => rfl
  | step h _ ih => rw [ih, key h]
/-- the bounds of a normal form under construction -/
theorem Gar.bds {n : Nat} {word : List Int} {Q : Int} {F : List (List Int)} (h : Gar n (rawM n word).1 (rawM n word).2 Q F) : F.length ≤ word.length ∧ - (word.length : Int) ≤ Q ∧ Q ≤ word.length := by
  obtain ⟨a, b, h1, h2, -⟩ := h.run
  have h3 := h1.len
  rw [rawM_len] at h3
  simp only [List.length_append, List.length_replicate] at h3
  rw [rawM_fst] at h2
  have := negs_le word
  omega
/-- the normal form of a word -/
noncomputable def normM (n : Nat) (word : List Int) : NormM := ⟨n, nfP' n (rawM n word).1 (rawM n word).2, nfF n (rawM n word).2⟩
theorem normM_nil (n : Nat) : normM n [] = ⟨n, 0, []⟩ := by
  have hs : settleM [] = [] := settleM_eq (n := n) (fun p hp => by simp at hp) (.refl _) (fun A h => by cases h)
  unfold normM nfP' nfF
  show NormM.mk _ _ _ = _
  have e : rawM n [] = (0, []) := rfl
  rw [e]
  simp only [hs]
  rfl
theorem LettN.two {n : Nat} {word : List Int} (h : LettN n word) (hp : 0 < word.length) : 2 ≤ n := by
  have := h word[0] (List.getElem_mem hp)
  omega
theorem Gar.normM {n : Nat} {word : List Int} {Q : Int} {F : List (List Int)} (hl : LettN n word) (h : Gar n (rawM n word).1 (rawM n word).2 Q F) : Go.Proofs.Ytplabnjdhkmmkaa.normM n word = ⟨n, Q, F⟩ := by
  rcases Nat.eq_zero_or_pos word.length with h0 | h0
  · obtain rfl : word = [] := List.eq_nil_of_length_eq_zero h0
    have hb := h.bds
    simp only [List.length_nil] at hb
    obtain rfl : F = [] := List.eq_nil_of_length_eq_zero (by omega)
    obtain rfl : Q = 0 := by omega
    exact normM_nil n
  · obtain ⟨h1, h2⟩ := h.nf (hl.two h0)
    unfold Go.Proofs.Ytplabnjdhkmmkaa.normM
    rw [h1, h2]
theorem normalOf_any (w : World) (S : Nat → Prop) (vw : Value) (n : Nat) (word : List Int) (h : Ints w S vw word) (hS : ∀ b, S b → b < w.heap.size) (hw : LettN n word) (hn2 : n ≤ 12) (hl : word.length ≤ 100000) :
    Calls Try.prog 46 #[.int .i64 (n : Int), vw] w fun e w' => ∃ (Q : Int) (F : List (List Int)) (v : Value), e = .returned (.agg #[.int .i64 (n : Int), .int .i64 Q, v]) ∧ normM n word = ⟨n, Q, F⟩ ∧ FRow w' w.heap.size w'.heap.size v F ∧ (F.length ≤ word.length ∧ - (word.length : Int) ≤ Q ∧ Q ≤ word.length) ∧ Up w w' := by
  obtain ⟨Aw, cw, rfl, hlw, hcw, -⟩ := h.shape
  have H := Lib.hid h
  have HS := Lib.hid hS
  have HW := Lib.hid hw
  clear h hw hS hlw hcw
  go_enter Try.func46, Try.ntmps46
  go_wp2_with fail
  obtain ⟨bx, hbx⟩ : ∃ x, x = w.heap.size + 1 := ⟨_, rfl⟩
  obtain ⟨base, hbase⟩ : ∃ x, x = w.heap.size + 2 := ⟨_, rfl⟩
  obtain ⟨wf, hwf⟩ : ∃ x, x = (w.alloc (.cells #[.int .i64 0, .int .i64 0, .slice none 0 0] 100)).alloc (.cells #[.int .i64 (n : Int), .int .i64 0, .slice none 0 0] 100) := ⟨_, rfl⟩
  have UF := Lib.hid (show Up w wf by rw [hwf]; exact ((Chg.refl Nowhere w).alloc _).alloc _)
  have X0 := Lib.hid (show CellF wf ⟨w.heap.size, 0, none⟩ (.int .i64 0) by rw [hwf]; exact CellF.up ((Chg.refl _ _).alloc _) (cellF_at rfl rfl))
  have X1 := Lib.hid (show CellF wf ⟨w.heap.size, 1, none⟩ (.int .i64 0) by rw [hwf]; exact CellF.up ((Chg.refl _ _).alloc _) (cellF_at rfl rfl))
  have X2 := Lib.hid (show CellF wf ⟨w.heap.size, 2, none⟩ (.slice none 0 0) by rw [hwf]; exact CellF.up ((Chg.refl _ _).alloc _) (cellF_at rfl rfl))
  have HSZ := Lib.hid (show wf.heap.size = base ∧ base = w.heap.size + 2 ∧ bx = w.heap.size + 1 by rw [hwf]; simp only [World.size_alloc]; omega)
  have HN0 := Lib.hid (show NBx wf bx base wf.heap.size n 0 [] (.slice none 0 0) from by
    have hz1 : (w.alloc (.cells #[.int .i64 0, .int .i64 0, .slice none 0 0] 100)).heap.size = bx := by rw [World.size_alloc, hbx]
    have c : ∀ t u, (#[Value.int .i64 (n : Int), .int .i64 0, .slice none 0 0] : Array Value)[t]? = some u → CellF wf ⟨bx, t, none⟩ u := fun t u hu => by
      have h1 := cell_new (w.alloc (.cells #[.int .i64 0, .int .i64 0, .slice none 0 0] 100)) #[Value.int .i64 (n : Int), .int .i64 0, .slice none 0 0] 100 t
      have h2 := frozen_new (w.alloc (.cells #[.int .i64 0, .int .i64 0, .slice none 0 0] 100)) #[Value.int .i64 (n : Int), .int .i64 0, .slice none 0 0] 100 t
      rw [hz1] at h1 h2
      rw [hwf]
      exact ⟨h1.trans hu, h2⟩
    exact ⟨c 0 _ rfl, c 1 _ rfl, c 2 _ rfl, FRow.nil _ _ _, by omega, Nat.le_refl _⟩)
  have hxx : (w.heap.size + 1) = bx := hbx.symm
  try simp only [World.size_alloc]
  rw [← hwf]
  rw [hxx]
  clear hwf hbx hbase hxx
  go_loopw [7, 8, 13] (fun _ _ i wr => ∃ (j : Nat) (Q : Int) (F : List (List Int)) (v : Value), j ≤ word.length ∧ i = .int .i64 (j : Int) ∧ Hid (NBx wr bx base wr.heap.size n Q F v) ∧ Hid (Gar n (rawM n (word.take j)).1 (rawM n (word.take j)).2 Q F) ∧ Hid (Chg (fun b => b = bx ∨ base ≤ b) wf wr)) (fun _ _ i _ => word.length - (intOf i).toNat)
  case atStart => exact ⟨0, 0, [], _, by omega, rfl, HN0, Lib.hid (Gar.start n 0), Lib.hid (Chg.refl _ _)⟩
  case round =>
    obtain ⟨j, Q, F, v, hj, rfl, hx, hga, hg⟩ := hrel
    obtain ⟨hb1, hb2, hb3⟩ := hga.out.bds
    have htl : (word.take j).length = j := by rw [List.length_take]; omega
    rw [htl] at hb1 hb2 hb3
    have HUR := Lib.hid (show Up w wr from Chg.new UF.out hg.out (fun i hi e => by have := HSZ.out; rcases e with e | e <;> omega))
    by_cases hlt : j < word.length
    · obtain ⟨b1, o1, rfl, -, hc1⟩ := ints_ixf (H.out.up HUR.out) hlt
      have f1 := (hc1 j hlt).1
      rw [ix_eq hlt] at f1
      have hlet := HW.out _ (List.getElem_mem hlt)
      have hn := HW.out.two (Nat.lt_of_le_of_lt (Nat.zero_le j) hlt)
      obtain ⟨x, hxe⟩ : ∃ x, x = word[j] := ⟨_, rfl⟩
      have HTK := Lib.hid (show word.take (j + 1) = word.take j ++ [x] by rw [hxe]; exact List.take_succ_eq_append_getElem hlt)
      rw [← hxe] at f1 hlet
      obtain ⟨kn, hkn⟩ : ∃ kn, kn = x.natAbs := ⟨_, rfl⟩
      rw [← hkn] at hlet
      obtain ⟨hk1, hk2⟩ := hlet
      have HKN := Lib.hid hkn
      have HLET := Lib.hid (show 1 ≤ x.natAbs ∧ x.natAbs < n by omega)
      have hxb : -11 ≤ x ∧ x ≤ 11 := by omega
      have habs : absK x = (kn : Int) := by unfold absK; split <;> omega
      have HBS := Lib.hid (show base ≤ wr.heap.size by have := HSZ.out; have := hg.out.size; omega)
      have HALF := Lib.hid hga.out.allF
      have htd : decide ((j : Int) < (word.length : Int)) = true := decide_eq_true (by omega)
      have hj0 : (0 : Int) ≤ (j : Int) := by omega
      have hjl : (j : Int) < (word.length : Int) := by omega
      clear hc1 hxe hkn htl
      obtain ⟨wk, hwk⟩ : ∃ x, x = wr := ⟨_, rfl⟩
      subst hwk
      go_wp2_with fail
      refine (size_any _ x hxb).mono ?_
      rintro e w1 ⟨rfl, rfl⟩
      rw [habs]
      go_wp2_with fail
      refine (letterPerm_any _ n kn hk1 hk2 hn2).mono ?_
      rintro e w1 ⟨v1, rfl, k1, g1⟩
      have K1 := Lib.hid k1
      have G1 := Lib.hid (show Up wk w1 from Chg.trans (by repeat (first | exact Chg.refl _ _ | apply Chg.drew | apply Chg.drewN | refine Chg.alloc ?_ _)) g1)
      have HX1 := Lib.hid (hx.out.up G1.out)
      clear k1 g1 f1
      by_cases hneg : x < 0
      rotate_left
      · have hnd : decide (x < 0) = false := decide_eq_false hneg
        go_wp2_with fail
        have hxp : 0 < x := by have := HLET.out; omega
        have HLE := Lib.hid (show lettP n x = bhM (identM n) kn by unfold lettP; rw [if_pos hxp, HKN.out])
        have HLP := Lib.hid (show PermP n (bhM (identM n) kn) from HLE.out ▸ PermP.lettP HLET.out)
        refine (times_any _ bx base wk.heap.size n Q F v _ _ _ (HX1.out.up (by repeat (first | exact Chg.refl _ _ | apply Chg.drew | apply Chg.drewN | refine Chg.alloc ?_ _))) (K1.out.up (by repeat (first | exact Chg.refl _ _ | apply Chg.drew | apply Chg.drewN | refine Chg.alloc ?_ _))) HLP.out HALF.out hn hn2 (by omega) (by omega) (Nat.le_trans HBS.out (Nat.le_trans G1.out.size (Chg.size (S := Nowhere) (by repeat (first | exact Chg.refl _ _ | apply Chg.drew | apply Chg.drewN | refine Chg.alloc ?_ _)))))).mono ?_
        rintro e w2 ⟨rfl, ⟨T, F', v', c, d, hB, hS, hT, hD⟩, hC⟩
        have HB2 := Lib.hid hB
        have HG2 := Lib.hid (show Gar n (rawM n (word.take (j + 1))).1 (rawM n (word.take (j + 1))).2 (Q + c) F' from by
          rw [HTK.out, rawM_snoc]
          unfold rawStep
          rw [if_pos hxp, HLE.out]
          exact hga.out.next HLP.out hS hT hD)
        have HC2 := Lib.hid (show Chg (fun b => b = bx ∨ base ≤ b) wf w2 from Chg.trans hg.out (Chg.trans (Chg.of_up G1.out) (Chg.trans (Chg.of_up (by repeat (first | exact Chg.refl _ _ | apply Chg.drew | apply Chg.drewN | refine Chg.alloc ?_ _))) hC)))
        clear hB hS hT hD hC
        go_wp2
        go_roundw
        case rel => exact ⟨j + 1, _, _, _, by omega, by go_num, HB2, HG2, HC2⟩
        case measure => first | (simp [intOf]; done) | (simp [intOf]; omega)
      have hnd : decide (x < 0) = true := decide_eq_true hneg
      obtain ⟨e1, z1⟩ := HX1.out.c1
      have wq : IntKind.i64.wrap (Q - 1) = Q - 1 := IntWalk.i64_in _ (by omega)
      have HX2 := Lib.hid (HX1.out.setP (Q - 1))
      have HCB := Lib.hid (box_chg w1 bx 1 (.int .i64 (Q - 1)))
      have HK1B := Lib.hid (K1.out.keep HCB.out (fun b _ h e => by have h : wk.heap.size ≤ b := h.1; have e : b = bx := e; have := HSZ.out; have := hg.out.size; omega))
      have HBW := Lib.hid (show base ≤ (w1.setCell ⟨bx, 1, none⟩ (.int .i64 (Q - 1))).heap.size from Nat.le_trans HBS.out (Nat.le_trans G1.out.size HCB.out.size))
      go_wp2_with fail
      refine (flipAll_any _ bx base wk.heap.size n (Q - 1) F v (HX2.out.up (by repeat (first | exact Chg.refl _ _ | apply Chg.drew | apply Chg.drewN | refine Chg.alloc ?_ _))) HALF.out hn hn2 (by omega) (Nat.le_trans HBW.out (Chg.size (S := Nowhere) (by repeat (first | exact Chg.refl _ _ | apply Chg.drew | apply Chg.drewN | refine Chg.alloc ?_ _))))).mono ?_
      rintro e w2 ⟨rfl, hX3, hC3⟩
      have HX3 := Lib.hid hX3
      have HCC3 := Lib.hid (show Chg (fun b => base ≤ b ∧ b < wk.heap.size) (w1.setCell ⟨bx, 1, none⟩ (.int .i64 (Q - 1))) w2 from Chg.trans (Chg.of_up (by repeat (first | exact Chg.refl _ _ | apply Chg.drew | apply Chg.drewN | refine Chg.alloc ?_ _))) hC3)
      have HK3 := Lib.hid (HK1B.out.keep HCC3.out (fun b _ h e => by have h : wk.heap.size ≤ b := h.1; have := e.2; omega))
      have HC13 := Lib.hid (show Chg (fun b => b = bx ∨ base ≤ b) wf w2 from Chg.trans hg.out (Chg.trans (Chg.of_up G1.out) (Chg.trans (HCB.out.mono (fun _ _ e => .inl e)) (HCC3.out.mono (fun _ _ e => .inr e.1)))))
      clear hX3 hC3 e1 z1
      go_wp2_with fail
      have HLP0 := Lib.hid (show PermP n (bhM (identM n) kn) from (PermP.ident n).bh hk1 hk2)
      have HLE := Lib.hid (show lettP n x = compM (halfM n) (bhM (identM n) kn) by unfold lettP; rw [if_neg (by omega), comp_half hk1 hk2, HKN.out])
      have HLP := Lib.hid (show PermP n (compM (halfM n) (bhM (identM n) kn)) from HLE.out ▸ PermP.lettP HLET.out)
      have HALF2 := Lib.hid (show AllP n (F.map flipP) from HALF.out.map_flip)
      have HSZ2 := Lib.hid (show wk.heap.size ≤ w2.heap.size from Nat.le_trans G1.out.size (Nat.le_trans HCB.out.size HCC3.out.size))
      refine (halfTwist_any _ n (by omega)).mono ?_
      rintro e w3 ⟨v3, rfl, k3, g3⟩
      have K3 := Lib.hid k3
      have G3 := Lib.hid (show Up w2 w3 from Chg.trans (by repeat (first | exact Chg.refl _ _ | apply Chg.drew | apply Chg.drewN | refine Chg.alloc ?_ _)) g3)
      clear k3 g3
      go_wp2_with fail
      refine (compose_any _ _ _ _ _ (halfM n) (bhM (identM n) kn) (n := n) (K3.out.up (by repeat (first | exact Chg.refl _ _ | apply Chg.drew | apply Chg.drewN | refine Chg.alloc ?_ _))) (HK3.out.up (Chg.trans G3.out (by repeat (first | exact Chg.refl _ _ | apply Chg.drew | apply Chg.drewN | refine Chg.alloc ?_ _)))) (PermP.half n) HLP0.out hn2).mono ?_
      rintro e w4 ⟨rfl, k4, g4⟩
      have K4 := Lib.hid k4
      have G4 := Lib.hid (show Up w2 w4 from Chg.trans G3.out (Chg.trans (by repeat (first | exact Chg.refl _ _ | apply Chg.drew | apply Chg.drewN | refine Chg.alloc ?_ _)) g4))
      clear k4 g4
      go_wp2_with fail
      refine (times_any _ bx base w2.heap.size n (Q - 1) (F.map flipP) v _ _ _ (HX3.out.up (Chg.trans G4.out (by repeat (first | exact Chg.refl _ _ | apply Chg.drew | apply Chg.drewN | refine Chg.alloc ?_ _)))) (K4.out.up (by repeat (first | exact Chg.refl _ _ | apply Chg.drew | apply Chg.drewN | refine Chg.alloc ?_ _))) HLP.out HALF2.out hn hn2 (by rw [List.length_map]; omega) (by omega) (Nat.le_trans HBS.out (Nat.le_trans HSZ2.out (Nat.le_trans G4.out.size (Chg.size (S := Nowhere) (by repeat (first | exact Chg.refl _ _ | apply Chg.drew | apply Chg.drewN | refine Chg.alloc ?_ _))))))).mono ?_
      rintro e w5 ⟨rfl, ⟨T, F', v', c, d, hB, hS, hT, hD⟩, hC⟩
      have HB2 := Lib.hid hB
      have HG2 := Lib.hid (show Gar n (rawM n (word.take (j + 1))).1 (rawM n (word.take (j + 1))).2 (Q - 1 + c) F' from by
        rw [HTK.out, rawM_snoc]
        unfold rawStep
        rw [if_neg (by omega), HLE.out]
        exact hga.out.flip.next HLP.out hS hT hD)
      have HC2 := Lib.hid (show Chg (fun b => b = bx ∨ base ≤ b) wf w5 from Chg.trans HC13.out (Chg.trans (Chg.of_up G4.out) (Chg.trans (Chg.of_up (by repeat (first | exact Chg.refl _ _ | apply Chg.drew | apply Chg.drewN | refine Chg.alloc ?_ _))) hC)))
      clear hB hS hT hD hC
      go_wp2
      go_roundw
      case rel => exact ⟨j + 1, _, _, _, by omega, by go_num, HB2, HG2, HC2⟩
      case measure => first | (simp [intOf]; done) | (simp [intOf]; omega)
    obtain rfl : j = word.length := by omega
    have htd : decide ((word.length : Int) < (word.length : Int)) = false := decide_eq_false (by omega)
    rw [List.take_length] at hga
    have HNM := Lib.hid (hga.out.normM HW.out)
    have e0 := hx.out.c0.1
    have e1 := hx.out.c1.1
    have e2 := hx.out.c2.1
    have NB : ¬ (w.heap.size = bx ∨ base ≤ w.heap.size) := by have := HSZ.out; omega
    obtain ⟨x0, y0⟩ := CellF.chg X0.out hg.out NB
    obtain ⟨x1, y1⟩ := CellF.chg X1.out hg.out NB
    obtain ⟨x2, y2⟩ := CellF.chg X2.out hg.out NB
    obtain ⟨Av, cv, hv, -, -, -⟩ := hx.out.fr.shape
    subst hv
    have CZ := Lib.hid (show Chg (fun b => b = w.heap.size) wr (((wr.setCell ⟨w.heap.size, 0, none⟩ (.int .i64 (n : Int))).setCell ⟨w.heap.size, 1, none⟩ (.int .i64 Q)).setCell ⟨w.heap.size, 2, none⟩ (.slice Av F.length cv)) from Chg.trans (Chg.trans (box_chg _ _ _ _) (box_chg _ _ _ _)) (box_chg _ _ _ _))
    have HFR := Lib.hid (show FRow (((wr.setCell ⟨w.heap.size, 0, none⟩ (.int .i64 (n : Int))).setCell ⟨w.heap.size, 1, none⟩ (.int .i64 Q)).setCell ⟨w.heap.size, 2, none⟩ (.slice Av F.length cv)) w.heap.size ((((wr.setCell ⟨w.heap.size, 0, none⟩ (.int .i64 (n : Int))).setCell ⟨w.heap.size, 1, none⟩ (.int .i64 Q)).setCell ⟨w.heap.size, 2, none⟩ (.slice Av F.length cv))).heap.size (.slice Av F.length cv) F from (hx.out.fr.keep CZ.out (fun b hb _ e => by have e : b = w.heap.size := e; have := HSZ.out; omega)).more (by have := HSZ.out; omega) (by simp [World.setCell]))
    have HBD := Lib.hid (show F.length ≤ word.length ∧ - (word.length : Int) ≤ Q ∧ Q ≤ word.length from ⟨hb1, hb2, hb3⟩)
    go_wp2_with fail
    refine bodyPost_ret (v := .agg #[.int .i64 (n : Int), .int .i64 Q, .slice Av F.length cv]) (by simp [results, Try.results46, go_sem, x0, x1, x2]) rfl ?_
    exact ⟨Q, F, _, rfl, HNM.out, HFR.out, HBD.out, Chg.new HUR.out CZ.out (fun i hi e => by have e : i = w.heap.size := e; omega)⟩
end Go.Proofs.Ytplabnjdhkmmkaa
end
section
set_option maxRecDepth 100000
set_option maxHeartbeats 4000000
set_option linter.unusedSimpArgs false
set_option linter.unusedVariables false
namespace Go.Proofs.Ytplabnjdhkmmkaa
open Go.ChangeShapes Go.WideShapes Go.ChangeAt Go.RowKit
def fac (fs : List (List Int)) (i : Nat) : List Int := fs.getD i []
/-- whether factor i is fine -/
def facB (n : Int) (fs : List (List Int)) (i : Nat) : Bool :=
  decide (((fac fs i).length : Int) = n) && permB (fac fs i) && !sameL (fac fs i) (identM (fac fs i).length) && !sameL (fac fs i) (halfM (fac fs i).length) && (decide (i = 0) || decide (extraM (fac fs (i - 1)) (fac fs i) = 0))
def okN (x : NormM) : Bool := inB x.n 0 12 && inB x.p (-100) 100 && decide (x.fs.length ≤ 100) && (List.range x.fs.length).all (fun i => facB x.n x.fs i) && (decide (2 ≤ x.n) || decide (x.p = 0))
def facTo (x : NormM) (j : Nat) : Prop := ∀ i, i < j → facB x.n x.fs i = true
theorem facTo.start (x : NormM) : facTo x 0 := fun _ h => absurd h (Nat.not_lt_zero _)
theorem facTo.next {x : NormM} {j : Nat} (h : facTo x j) (hj : facB x.n x.fs j = true) : facTo x (j + 1) := fun i hi => by
  by_cases e : i = j
  · subst e; exact hj
  · exact h i (by omega)
theorem sIs_any (w : World) (S S' : Nat → Prop) (v u : Value) (xs ys : List Int) (h : Ints w S v xs) (h2 : Ints w S' u ys) :
    Calls Try.prog 125 #[v, u] w fun e w' => e = .returned (.bool (sameL xs ys)) ∧ Up w w' := by
  obtain ⟨A, c, rfl, hlc, hcm, -⟩ := h.shape
  obtain ⟨A2, c2, rfl, hlc2, hcm2, -⟩ := h2.shape
  have H := Lib.hid h
  have H2 := Lib.hid h2
  clear h h2
  go_enter Try.func125, Try.ntmps125
  go_wp2_with fail
  refine (l00Same_any _ _ _ _ _ _ _ H.out H2.out).mono ?_
  rintro e w1 ⟨rfl, g1⟩
  have G := Lib.hid g1
  clear g1
  go_wp2
  go_ret
  exact ⟨rfl, G.out⟩
end Go.Proofs.Ytplabnjdhkmmkaa
end
section
set_option maxRecDepth 100000
set_option maxHeartbeats 4000000
set_option linter.unusedSimpArgs false
set_option linter.unusedVariables false
namespace Go.Proofs.Ytplabnjdhkmmkaa
open Go.ChangeShapes Go.WideShapes Go.ChangeAt Go.RowKit
theorem LRow.more {w : World} {base base' : Nat} {v : Value} {rs : List (List Int)} (h : LRow w base v rs) (hb : base' ≤ base) : LRow w base' v rs := by
  obtain ⟨cs, h1, h2⟩ := h
  refine ⟨cs, ⟨h1.1, ?_⟩, fun i hi => (h2 i hi).mono (fun b _ hq => ⟨by omega, hq.2⟩)⟩
  rcases h1.2 with h | ⟨g, cap, cur, e, hg, r⟩
  · exact .inl h
  · exact .inr ⟨g, cap, cur, e, by omega, r⟩
def readV (w : World) : Value → List Int
  | .slice (some a) n _ => (List.range n).map fun j => match w.cell? ⟨a.block, a.off + j, none⟩ with | some (.int _ x) => x | _ => 0
  | _ => []
theorem Ints.readV {w : World} {S : Nat → Prop} {v : Value} {xs : List Int} (h : Ints w S v xs) : readV w v = xs := by
  obtain ⟨A, c, rfl, -, -, -, hr, -⟩ := h
  rcases Nat.eq_zero_or_pos xs.length with h0 | h0
  · obtain rfl : xs = [] := List.eq_nil_of_length_eq_zero h0
    cases A <;> rfl
  · obtain ⟨b, o, rfl, -, -, hc⟩ := hr h0
    refine List.ext_getElem (by simp [Go.Proofs.Ytplabnjdhkmmkaa.readV]) fun j h1 h2 => ?_
    have := (hc j h2).1
    simp [Go.Proofs.Ytplabnjdhkmmkaa.readV, this]
theorem halfs_id {n : Nat} {L : List (List Int)} {p : List Int} (h : p = identM n) : halfs n (L ++ [p]) = halfs n L ∧ pureF n (L ++ [p]) = pureF n L := by
  subst h
  constructor
  · simp [halfs, List.countP_append]
  · simp [pureF, List.filter_append]
theorem halfs_half {n : Nat} {L : List (List Int)} {p : List Int} (h1 : p ≠ identM n) (h : p = halfM n) : halfs n (L ++ [p]) = halfs n L + 1 ∧ pureF n (L ++ [p]) = pureF n L := by
  subst h
  constructor
  · simp [halfs, List.countP_append, h1]
  · simp [pureF, List.filter_append]
theorem halfs_oth {n : Nat} {L : List (List Int)} {p : List Int} (h1 : p ≠ identM n) (h2 : p ≠ halfM n) : halfs n (L ++ [p]) = halfs n L ∧ pureF n (L ++ [p]) = pureF n L ++ [p] := by
  constructor
  · simp [halfs, List.countP_append, h2]
  · simp [pureF, List.filter_append, h1, h2]
theorem halfs_le (n : Nat) (L : List (List Int)) : halfs n L ≤ L.length ∧ (pureF n L).length ≤ L.length := ⟨List.countP_le_length, List.length_filter_le _ _⟩
def readLS (w : World) : Value → List (List Int)
  | .slice (some a) n _ => (List.range n).map fun i => match w.cell? ⟨a.block, a.off + i, none⟩ with | some u => readV w u | none => []
  | _ => []
theorem LRow.read {w : World} {base : Nat} {v : Value} {rs : List (List Int)} (h : LRow w base v rs) : readLS w v = rs := by
  rcases Nat.eq_zero_or_pos rs.length with h0 | h0
  · obtain ⟨A, c, rfl, -⟩ := h.val
    obtain rfl : rs = [] := List.eq_nil_of_length_eq_zero h0
    cases A <;> rfl
  · obtain ⟨g, c, A, k, hv, -⟩ := h.cell h0
    subst hv
    refine List.ext_getElem (by simp [Go.Proofs.Ytplabnjdhkmmkaa.readLS]) fun j h1 h2 => ?_
    obtain ⟨g', c', A', k', hv', -, hc, -, hi, -⟩ := h.cell h2
    obtain ⟨rfl, rfl⟩ : g = g' ∧ c = c' := by injection hv' with e1 _ e2; injection e1 with e1; injection e1 with e1; exact ⟨e1, e2⟩
    simp only [Go.Proofs.Ytplabnjdhkmmkaa.readLS, List.getElem_map, List.getElem_range, Nat.zero_add, hc]
    exact hi.readV
/-- one pass over the neighbours from the first on: what it has found ahead of place i -/
structure PassU (n : Nat) (L0 L : List (List Int)) (again : Bool) (i : Nat) : Prop where
  run : Stps L0 L
  none : again = false → L = L0 ∧ ∀ j, j < i → extraM (fac2 L j) (fac2 L (j + 1)) = 0
  some : again = true → mu 0 L < mu 0 L0
theorem PassU.start (n : Nat) (L : List (List Int)) : PassU n L L false 0 := ⟨.refl _, fun _ => ⟨rfl, fun j h => by omega⟩, fun h => by cases h⟩
theorem PassU.next {n : Nat} {L0 L : List (List Int)} {again : Bool} {i : Nat} (h : PassU n L0 L again i) (he : extraM (fac2 L i) (fac2 L (i + 1)) = 0) : PassU n L0 L again (i + 1) :=
  ⟨h.run, fun e => ⟨(h.none e).1, fun j hj => by
    by_cases e2 : j = i
    · subst e2; exact he
    · exact (h.none e).2 j (by omega)⟩, h.some⟩
theorem PassU.step {n : Nat} {L0 L : List (List Int)} {again : Bool} {i k : Nat} (h : PassU n L0 L again i) (ha : AllP n L0) (hi : i + 1 < L.length) (hs : stP k (fac2 L (i + 1))) (hn : nfP k (fac2 L i)) :
    PassU n L0 ((L.set i (bhM (fac2 L i) k)).set (i + 1) (bfM k (fac2 L (i + 1)))) true i ∧ mu 0 ((L.set i (bhM (fac2 L i) k)).set (i + 1) (bfM k (fac2 L (i + 1)))) + 1 = mu 0 L := by
  obtain ⟨e1, e2⟩ := set_two hi (bhM (fac2 L i) k) (bfM k (fac2 L (i + 1)))
  have hA := h.run.allP ha
  have left : ∀ (C : List (List Int)) {A B : List (List Int)}, Stp A B → Stp (C ++ A) (C ++ B) := by
    intro C A B hh
    induction C with
    | nil => exact hh
    | cons p C ih => exact .there ih
  have hst : Stp L ((L.set i (bhM (fac2 L i) k)).set (i + 1) (bfM k (fac2 L (i + 1)))) := by
    rw [e1]
    conv => lhs; rw [e2]
    exact left _ (.here k hs hn)
  have hm := hst.mu hA 0
  refine ⟨⟨h.run.trans (.one hst), (fun e => by cases e), fun _ => ?_⟩, hm⟩
  rcases h.run.mu_le ha with e | e
  · rw [e]; omega
  · omega
theorem PassU.term {n : Nat} {L0 L : List (List Int)} {i : Nat} (h : PassU n L0 L false i) (ha : AllP n L0) (hi : L.length ≤ i + 1) : Term L := by
  obtain ⟨e, k⟩ := h.none rfl
  exact term_of (by rw [e]; exact ha) fun j hj => k j (by omega)
theorem LRow.rdN {w : World} {base : Nat} {v : Value} {rs : List (List Int)} (h : LRow w base v rs) : IntSSV w Nowhere (New base w.heap.size) (New base w.heap.size) v rs := h.rd _
theorem l04FlipAll_any (w : World) (base n : Nat) (v : Value) (L : List (List Int)) (h : LRow w base v L) (ha : AllP n L) (hn2 : n ≤ 12) (hl : L.length ≤ 100000) :
    Calls Try.prog 103 #[v] w fun e w' => ∃ v', e = .returned v' ∧ LRow w' w.heap.size v' (L.map flipP) ∧ Up w w' := by
  obtain ⟨A, c, rfl, -, -, -⟩ := h.val
  have H := Lib.hid h
  have HA := Lib.hid ha
  clear h ha
  go_enter Try.func103, Try.ntmps103
  go_wp2
  go_loopw [3, 4] (fun u i wr => ∃ j : Nat, j ≤ L.length ∧ i = .int .i64 (j : Int) ∧ Hid (LRow wr w.heap.size u ((L.map flipP).take j)) ∧ Hid (Up w wr)) (fun _ i _ => L.length - (intOf i).toNat)
  case atStart => exact ⟨0, by omega, rfl, Lib.hid (LRow.made w _ (Nat.le_refl _)), Lib.hid ((Chg.refl _ _).alloc _)⟩
  case round =>
    obtain ⟨j, hj, rfl, ho, hu⟩ := hrel
    by_cases hlt : j < L.length
    rotate_left
    · obtain rfl : j = L.length := by omega
      have htd : decide ((L.length : Int) < (L.length : Int)) = false := decide_eq_false (by omega)
      go_wp2
      go_ret
      exact ⟨_, rfl, by have h1 := ho.out; rw [List.take_of_length_le (by rw [List.length_map]; exact Nat.le_refl _)] at h1; exact h1, hu.out⟩
    obtain ⟨g, c', Ar, kr, hv, -, hc1, -, hi1, -⟩ := H.out.cell hlt
    obtain ⟨rfl, rfl⟩ : A = some ⟨g, 0, none⟩ ∧ c = c' := by injection hv with x1 x2 x3; exact ⟨x1, x3⟩
    have f0 := Chg.cell hu.out hc1 id
    obtain ⟨p, hp⟩ : ∃ p, p = L[j] := ⟨_, rfl⟩
    rw [← hp] at f0 hi1
    have HPP := Lib.hid (show PermP n p by rw [hp]; exact HA.out _ (List.getElem_mem hlt))
    have HI := Lib.hid (hi1.up hu.out)
    have HPE := Lib.hid (show (L.map flipP).take (j + 1) = (L.map flipP).take j ++ [flipP p] by rw [List.take_succ_eq_append_getElem (by rw [List.length_map]; exact hlt), hp]; simp)
    have HTL := Lib.hid (show ((L.map flipP).take j).length ≤ 1000000 by rw [List.length_take, List.length_map]; omega)
    have htd : decide ((j : Int) < (L.length : Int)) = true := decide_eq_true (by omega)
    have hj0 : (0 : Int) ≤ (j : Int) := by omega
    have hjl : (j : Int) < (L.length : Int) := by omega
    have hsz := hu.out.size
    obtain ⟨R, hR⟩ : ∃ R, R = (L.map flipP).take j := ⟨_, rfl⟩
    rw [← hR] at ho HTL HPE
    clear hR
    obtain ⟨Eu, ku, hEu, -⟩ := ho.out.val
    subst hEu
    have HB := Lib.hid (fun (g : Nat) (hg : (Value.slice Eu R.length ku).ownBlock = some g) => ho.out.lt hg)
    clear hv hc1 hi1 hp
    go_wp2_with (first | (go_at_call 122; refine (l04Flip_any _ _ _ p (n := n) (HI.out.up (by repeat (first | exact Chg.refl _ _ | apply Chg.drew | apply Chg.drewN | refine Chg.alloc ?_ _))) HPP.out hn2).mono ?_; rintro e w1 ⟨rfl, k1, g1⟩; have K1 := Lib.hid k1; have G1 := Lib.hid (show Up wr w1 from Chg.trans (by repeat (first | exact Chg.refl _ _ | apply Chg.drew | apply Chg.drewN | refine Chg.alloc ?_ _)) g1); clear k1 g1) | (at_builtin; refine wp_append_lrow rfl _ _ rfl w.heap.size _ _ rfl (ho.out.up (Chg.trans G1.out ((Chg.refl _ _).alloc _))) w1.heap.size (flipP p) (some ⟨wr.heap.size, 0, none⟩) p.length rfl (by rw [cell_new, flipP_length]; rfl) (by have h1 := K1.out.up ((Chg.refl Nowhere w1).alloc (.cells #[.slice (some ⟨wr.heap.size, 0, none⟩) p.length p.length] 23)); rw [flipP_length]; exact h1.mono (fun b hb e => ⟨by omega, hb, fun e2 => by have := (HB.out _ e2).2; omega⟩)) (by rw [flipP_length]; have := HPP.out.len; omega) HTL.out (by have := G1.out.size; simp; omega) ?_; intro v' w2 h1 h2 h3; have HO := Lib.hid h1; have HC := Lib.hid h2; clear h1 h2 h3))
    go_roundw
    case rel => exact ⟨j + 1, by omega, by go_num, by rw [HPE.out]; exact HO, Lib.hid (Chg.new (Chg.trans hu.out (Chg.trans G1.out ((Chg.refl _ _).alloc _))) HC.out (fun i hi e => by have := (HB.out _ e).1; omega))⟩
    case measure => first | (simp [intOf]; done) | (simp [intOf]; omega)
theorem l04Settle_any (w : World) (base n : Nat) (vl : Value) (L : List (List Int)) (h : LRow w base vl L) (ha : AllP n L) (hn : L ≠ [] → 2 ≤ n) (hn2 : n ≤ 12) (hl : L.length ≤ 100000) (hbs : base ≤ w.heap.size) :
    Calls Try.prog 105 #[.int .i64 (n : Int), vl] w fun e w' => ∃ (T : List (List Int)) (v' : Value), e = .returned (.tuple #[.int .i64 (halfs n T : Nat), v']) ∧ Stps L T ∧ Term T ∧ LRow w' base v' (pureF n T) ∧ Up w w' := by
  obtain ⟨Al, cl, rfl, -, -, -⟩ := h.val
  have H := Lib.hid h
  have HA := Lib.hid ha
  have HN := Lib.hid hn
  clear h ha hn
  go_enter Try.func105, Try.ntmps105
  go_wp2_with (at_builtin; refine wp_app_lrows rfl _ _ rfl base (.slice (some ⟨w.heap.size, 0, none⟩) 0 0) rfl (LRow.made w base hbs) Nowhere _ _ _ L rfl (H.out.rdN.up ((Chg.refl _ _).alloc _)) (fun b _ hb => ⟨hb.1, fun e => by injection e with e; have e : w.heap.size = b := e; have := hb.2; omega⟩) (by omega) (by simp; omega) ?_; intro vf wf h1 h2 h3; have HF0 := Lib.hid h1; have HOW := Lib.hid (show ∀ b, vf.ownBlock = some b → w.heap.size ≤ b from fun b hb => (h3 b hb).elim (fun e => by injection e with e; have e : w.heap.size = b := e; omega) (fun h => by simp at h; omega)); have HC0 := Lib.hid (show Up w wf from Chg.new ((Chg.refl Nowhere w).alloc (.cells #[] 23)) h2 (fun i hi e => by injection e with e; have e : w.heap.size = i := e; omega)); clear h1 h2 h3)
  obtain ⟨Af, cf, hvf, -, -, -⟩ := HF0.out.val
  subst hvf
  have HFL := Lib.hid (show True from trivial)
  go_wp2
  go_loopw [7] (fun a wr => ∃ (L1 : List (List Int)) (m : Bool), a = .bool m ∧ L1.length = L.length ∧ Hid (LRow wr base (.slice Af L.length cf) L1) ∧ Hid (Stps L L1) ∧ Hid (m = false → Term L1) ∧ Hid (Chg (fun b => (Value.slice Af L.length cf).ownBlock = some b) wf wr)) (fun a wr => 2 * mu 0 (readLS wr (.slice Af L.length cf)) + bN a)
  case atStart => exact ⟨L, true, rfl, rfl, HF0, Lib.hid (.refl _), Lib.hid (fun e => by cases e), Lib.hid (Chg.refl _ _)⟩
  case round =>
    obtain ⟨L1, m, rfl, hl1, hx1, hs1, ht1, hg1⟩ := hrel
    have HRD := Lib.hid hx1.out.read
    have HA1 := Lib.hid (hs1.out.allP HA.out)
    cases m with
    | true =>
      obtain ⟨w0, hw0⟩ : ∃ x, x = wr := ⟨_, rfl⟩
      subst hw0
      have HL1 := Lib.hid hl1
      clear hl1
      go_wp2
      go_loopw [7, 8, 9] (fun a i _ wr => ∃ (L2 : List (List Int)) (ag : Bool) (j : Nat), j ≤ L.length ∧ a = .bool ag ∧ i = .int .i64 (j : Int) ∧ Hid (L2.length = L.length) ∧ Hid (LRow wr base (.slice Af L.length cf) L2) ∧ Hid (PassU n L1 L2 ag j) ∧ Hid (Chg (fun b => (Value.slice Af L.length cf).ownBlock = some b) w0 wr)) (fun _ i _ _ => L.length - (intOf i).toNat)
      case atStart => exact ⟨L1, false, 0, by omega, rfl, rfl, HL1, by first | exact hx1 | exact Lib.hid (hx1.out.up (by repeat (first | exact Chg.refl _ _ | apply Chg.drew | apply Chg.drewN | refine Chg.alloc ?_ _))), Lib.hid (PassU.start n L1), by first | exact Lib.hid (Chg.refl _ _) | exact Lib.hid (Chg.of_up (by repeat (first | exact Chg.refl _ _ | apply Chg.drew | apply Chg.drewN | refine Chg.alloc ?_ _)))⟩
      case round =>
        obtain ⟨L2, ag, i, hi, rfl, rfl, hl2, hx2, hp2, hg2⟩ := hrel
        have HA2 := Lib.hid (hp2.out.run.allP HA1.out)
        have wii : IntKind.i64.wrap ((i : Int) + 1) = (i : Int) + 1 := IntWalk.i64_in _ (by omega)
        by_cases hlt : i + 1 < L.length
        rotate_left
        · have hdd : decide ((i : Int) + 1 < (L.length : Int)) = false := decide_eq_false (by omega)
          have HRE := Lib.hid hx2.out.read
          have HPT := Lib.hid (fun (e : ag = false) => (show Term L2 by subst e; exact hp2.out.term HA1.out (by have := hl2.out; omega)))
          go_wp2
          go_roundw
          case rel => exact ⟨L2, ag, rfl, hl2.out, hx2, Lib.hid (hs1.out.trans hp2.out.run), HPT, Lib.hid (Chg.trans hg1.out hg2.out)⟩
          case measure =>
            rw [HRE.out, HRD.out]
            cases hag : ag with
            | true => have := hp2.out.some hag; simp only [bN]; omega
            | false => rw [(hp2.out.none hag).1]; simp only [bN]; omega
        have hdd : decide ((i : Int) + 1 < (L.length : Int)) = true := decide_eq_true (by omega)
        have hi2 : i + 1 < L2.length := by have := hl2.out; omega
        obtain ⟨g, cg, Ap, kp, hv, hgb, ca, -, ip, -⟩ := hx2.out.cell (i := i) (by omega)
        obtain ⟨g', cg', Aq, kq, hv', -, cb, -, iq, -⟩ := hx2.out.cell (i := i + 1) hi2
        obtain ⟨rfl, hgl, rfl⟩ : Af = some ⟨g, 0, none⟩ ∧ L.length = L2.length ∧ cf = cg := by injection hv with x1 x2 x3; exact ⟨x1, x2, x3⟩
        obtain rfl : g = g' := by injection hv' with x1 x2 x3; injection x1 with x1; injection x1
        have EP := Lib.hid (show fac2 L2 i = L2[i] from fac2_eq (by omega))
        have EQ := Lib.hid (show fac2 L2 (i + 1) = L2[i + 1] from fac2_eq hi2)
        rw [← EP.out] at ca ip
        rw [← EQ.out] at cb iq
        have HPP := Lib.hid (show PermP n (fac2 L2 i) by rw [EP.out]; exact HA2.out _ (List.getElem_mem _))
        have HPQ := Lib.hid (show PermP n (fac2 L2 (i + 1)) by rw [EQ.out]; exact HA2.out _ (List.getElem_mem _))
        obtain ⟨p, hp⟩ : ∃ p, p = fac2 L2 i := ⟨_, rfl⟩
        obtain ⟨q, hq⟩ : ∃ q, q = fac2 L2 (i + 1) := ⟨_, rfl⟩
        rw [← hp] at ca ip HPP
        rw [← hq] at cb iq HPQ
        have HPE := Lib.hid hp
        have HQE := Lib.hid hq
        have IP := Lib.hid ip
        have IQ := Lib.hid iq
        have HGB := Lib.hid hgb
        have HPB := Lib.hid (HPP.out.permB hn2)
        have HQL := Lib.hid (show q.length ≤ 1000 by have := HPQ.out.len; omega)
        have hil : (i : Int) < (L.length : Int) := by omega
        have hil2 : (i : Int) + 1 < (L.length : Int) := by omega
        have hi0 : (0 : Int) ≤ (i : Int) := by omega
        have hi1 : (0 : Int) ≤ (i : Int) + 1 := by omega
        have hito : ((i : Int) + 1).toNat = i + 1 := by omega
        have HI2 := Lib.hid hi2
        clear hv hv' ip iq hp hq EP EQ hgl hi2 hgb
        go_wp2
        refine wp_region_up (by kernel_rfl) (by kernel_rfl) ?_
        have cau := up_cell ca
        have cbu := up_cell cb
        repeat (go_big_quiet_step ((go_at_call 123; exact calls_up (l04Extra_any _ _ _ _ _ p q (IP.out.up (UpOf.up _)) (IQ.out.up (UpOf.up _)) HPB.out HQL.out))))
        refine wpQuiet_nil ?_
        rintro u ⟨u0, hu⟩
        have gu := Lib.hid (hu ▸ u0.up)
        clear hu u0 cau cbu ca cb
        go_wp2
        obtain ⟨w5, hw5⟩ : ∃ x, x = wr := ⟨_, rfl⟩
        subst hw5
        go_loopw [7, 9] (fun a kx wr => ∃ (L3 : List (List Int)) (ag3 : Bool), a = .bool ag3 ∧ kx = .int .i64 (extraM (fac2 L3 i) (fac2 L3 (i + 1))) ∧ Hid (L3.length = L.length) ∧ Hid (LRow wr base (.slice (some ⟨g, 0, none⟩) L.length cf) L3) ∧ Hid (PassU n L1 L3 ag3 i) ∧ Hid (Chg (fun b => (Value.slice (some ⟨g, 0, none⟩) L.length cf).ownBlock = some b) w0 wr)) (fun _ _ wr => mu 0 (readLS wr (.slice (some ⟨g, 0, none⟩) L.length cf)))
        case atStart => exact ⟨L2, ag, rfl, by rw [HPE.out, HQE.out], hl2, Lib.hid (hx2.out.up gu.out), hp2, Lib.hid (Chg.trans hg2.out (Chg.of_up gu.out))⟩
        case round =>
          obtain ⟨L3, ag3, rfl, rfl, hl3, hx3, hp3, hg3⟩ := hrel
          have HA3 := Lib.hid (hp3.out.run.allP HA1.out)
          have hi3 : i + 1 < L3.length := by have := hl3.out; omega
          have HME := Lib.hid hx3.out.read
          by_cases hz : extraM (fac2 L3 i) (fac2 L3 (i + 1)) = 0
          · rw [hz]
            have HPN := Lib.hid (hp3.out.next hz)
            have hzz : ((0 : Int) != 0) = false := rfl
            clear hz
            go_wp2
            go_roundw
            case rel => exact ⟨L3, ag3, i + 1, by omega, rfl, by first | rfl | go_num, hl3, hx3, HPN, hg3⟩
            case measure => first | (simp [intOf]; done) | (simp [intOf]; omega)
          have hPP : PermP n (fac2 L3 i) := by rw [fac2_eq (by omega)]; exact HA3.out _ (List.getElem_mem _)
          have hPQ : PermP n (fac2 L3 (i + 1)) := by rw [fac2_eq hi3]; exact HA3.out _ (List.getElem_mem _)
          obtain ⟨kn, hk, hs, hnf⟩ := extra_step hPP hPQ hz
          have hk1 := hs.1
          have hk2 : kn < n := by have := hs.2.1; have := hPQ.len; omega
          obtain ⟨s1, s2⟩ := hp3.out.step HA1.out hi3 hs hnf
          have HP4 := Lib.hid s1
          have HM4 := Lib.hid s2
          have HPP3 := Lib.hid hPP
          have HPQ3 := Lib.hid hPQ
          rw [hk]
          have hkz : ((kn : Int) != 0) = true := by simp; omega
          clear s1 s2 hs hnf hz hk
          obtain ⟨gz, cz, A1, k1, hv1, hgb1, ca1, cf1, ip1, st1⟩ := hx3.out.cell (i := i) (by omega)
          obtain ⟨rfl, rfl⟩ : g = gz ∧ cf = cz := by injection hv1 with x1 x2 x3; injection x1 with x1; injection x1 with x1 _ _; exact ⟨x1, x3⟩
          have e1 : L3[i] = fac2 L3 i := (fac2_eq (by omega)).symm
          rw [e1] at ca1 ip1
          have IP1 := Lib.hid ip1
          have ST1 := Lib.hid st1
          have HZB := Lib.hid hgb1
          clear e1 ip1 st1 hv1 hgb1
          obtain ⟨p3, hp3e⟩ : ∃ p, p = fac2 L3 i := ⟨_, rfl⟩
          rw [← hp3e] at ca1 IP1 HPP3
          have HP3E := Lib.hid hp3e
          clear hp3e
          have hil3 : (i : Int) < (L.length : Int) := by omega
          obtain ⟨w6, hw6⟩ : ∃ x, x = wr := ⟨_, rfl⟩
          subst hw6
          go_wp2_with fail
          refine (l04Behind_any _ _ _ p3 kn (IP1.out.up (by repeat (first | exact Chg.refl _ _ | apply Chg.drew | apply Chg.drewN | refine Chg.alloc ?_ _))) HPP3.out hn2 hk1 hk2).mono ?_
          rintro e w7 ⟨v7, rfl, k7, g7⟩
          obtain ⟨A7, c7, rfl, hl7, hc7, -⟩ := k7.shape
          have K7 := Lib.hid (show Ints w7 (fun b => w6.heap.size ≤ b ∧ b < w7.heap.size) (.slice A7 (bhM p3 kn).length c7) (bhM p3 kn) from k7.mono (fun b _ h => ⟨by have := h.1; simpa using this, h.2⟩))
          have G7 := Lib.hid (show Up w6 w7 from Chg.trans (by repeat (first | exact Chg.refl _ _ | apply Chg.drew | apply Chg.drewN | refine Chg.alloc ?_ _)) g7)
          have HS7 := Lib.hid (ST1.out w7 A7 c7 (bhM p3 kn) G7.out K7.out ⟨hl7, hc7⟩)
          have d1 := Chg.cell G7.out ca1 id
          have z1 := (Chg.frozen G7.out ca1 id).trans cf1
          clear k7 g7 hl7 hc7 ca1 cf1
          obtain ⟨r7, hr7⟩ : ∃ r, r = bhM p3 kn := ⟨_, rfl⟩
          rw [← hr7] at HS7 K7 ⊢
          have HR7 := Lib.hid hr7
          clear hr7
          have G7L := Lib.hid hl3.out
          obtain ⟨gz, cz, A2, k2, hv2, hgb2, ca2, cf2, ip2, st2⟩ := HS7.out.1.cell (i := i + 1) (by rw [List.length_set]; exact hi3)
          obtain ⟨rfl, rfl⟩ : g = gz ∧ cf = cz := by injection hv2 with x1 x2 x3; injection x1 with x1; injection x1 with x1 _ _; exact ⟨x1, x3⟩
          have e2 : (L3.set i r7)[i + 1]'(by rw [List.length_set]; exact hi3) = fac2 L3 (i + 1) := by rw [List.getElem_set_ne (by omega)]; exact (fac2_eq hi3).symm
          rw [e2] at ca2 ip2
          have IP2 := Lib.hid ip2
          have ST2 := Lib.hid st2
          clear e2 ip2 st2 hv2 hgb2
          obtain ⟨q3, hq3e⟩ : ∃ q, q = fac2 L3 (i + 1) := ⟨_, rfl⟩
          rw [← hq3e] at ca2 IP2 HPQ3
          have HQ3E := Lib.hid hq3e
          clear hq3e
          go_wp2_with fail
          refine (l04BeforeP_any _ _ _ q3 kn (IP2.out.up (by repeat (first | exact Chg.refl _ _ | apply Chg.drew | apply Chg.drewN | refine Chg.alloc ?_ _))) HPQ3.out hn2 hk1 hk2).mono ?_
          rintro e w8 ⟨v8, rfl, k8, g8⟩
          obtain ⟨A8, c8, rfl, hl8, hc8, -⟩ := k8.shape
          have G8 := Lib.hid (show Up (w7.setCell ⟨g, i, none⟩ (.slice A7 r7.length c7)) w8 from Chg.trans (by repeat (first | exact Chg.refl _ _ | apply Chg.drew | apply Chg.drewN | refine Chg.alloc ?_ _)) g8)
          have K8 := Lib.hid (show Ints w8 (fun b => (w7.setCell ⟨g, i, none⟩ (.slice A7 r7.length c7)).heap.size ≤ b ∧ b < w8.heap.size) (.slice A8 (bfM kn q3).length c8) (bfM kn q3) from k8.mono (fun b _ h => ⟨by have := h.1; simpa using this, h.2⟩))
          have HS8 := Lib.hid (ST2.out w8 A8 c8 (bfM kn q3) G8.out K8.out ⟨hl8, hc8⟩)
          have d2 := Chg.cell G8.out ca2 id
          have z2 := (Chg.frozen G8.out ca2 id).trans cf2
          clear k8 g8 hl8 hc8 ca2 cf2
          obtain ⟨r8, hr8⟩ : ∃ r, r = bfM kn q3 := ⟨_, rfl⟩
          rw [← hr8] at HS8 K8 ⊢
          have HR8 := Lib.hid hr8
          clear hr8
          have HX9 := Lib.hid HS8.out.1
          have HC9 := Lib.hid (show Chg (fun b => (Value.slice (some ⟨g, 0, none⟩) L.length cf).ownBlock = some b) w6 (w8.setCell ⟨g, i + 1, none⟩ (.slice A8 r8.length c8)) from Chg.trans (Chg.of_up G7.out) (Chg.trans (HS7.out.2.mono (fun b _ e => congrArg some (show g = b from Eq.symm e))) (Chg.trans (Chg.of_up G8.out) (HS8.out.2.mono (fun b _ e => congrArg some (show g = b from Eq.symm e))))))
          go_wp2_with fail
          rw [HP3E.out] at HR7
          rw [HQ3E.out] at HR8
          rw [← HR7.out, ← HR8.out] at HP4 HM4
          obtain ⟨w9, hw9⟩ : ∃ x, x = (w8.setCell ⟨g, i + 1, none⟩ (.slice A8 r8.length c8)) := ⟨_, rfl⟩
          rw [← hw9] at HX9 HC9 ⊢
          obtain ⟨L4, hL4⟩ : ∃ x, x = (L3.set i r7).set (i + 1) r8 := ⟨_, rfl⟩
          have HL4 := Lib.hid (show L4.length = L.length by rw [hL4, List.length_set, List.length_set]; exact hl3.out)
          rw [← hL4] at HX9 HP4 HM4
          have HMX := Lib.hid (show readLS w6 (.slice (some ⟨g, 0, none⟩) L.length cf) = L3 from HME.out)
          clear hL4 hw9 HS8 HS7 K8 K7 G8 G7 ST1 ST2 IP1 IP2 HR7 HR8 d1 z1 d2 z2 HP3E HQ3E HPP3 HPQ3 IP IQ HPB HQL HPP HPQ HPE HQE HI2
          have HA4 := Lib.hid (HP4.out.run.allP HA1.out)
          have hi4 : i + 1 < L4.length := by have := HL4.out; omega
          obtain ⟨gz, cz, A3, k3, hv3, hgb3, ca3, cf3, ip3, st3⟩ := HX9.out.cell (i := i) (by omega)
          obtain ⟨rfl, rfl⟩ : g = gz ∧ cf = cz := by injection hv3 with x1 x2 x3; injection x1 with x1; injection x1 with x1 _ _; exact ⟨x1, x3⟩
          obtain ⟨gz, cz, A4, k4, hv4, hgb4, ca4, cf4, ip4, st4⟩ := HX9.out.cell (i := i + 1) hi4
          obtain ⟨rfl, rfl⟩ : g = gz ∧ cf = cz := by injection hv4 with x1 x2 x3; injection x1 with x1; injection x1 with x1 _ _; exact ⟨x1, x3⟩
          have EP := Lib.hid (show fac2 L4 i = L4[i] from fac2_eq (by omega))
          have EQ := Lib.hid (show fac2 L4 (i + 1) = L4[i + 1] from fac2_eq hi4)
          rw [← EP.out] at ca3 ip3
          rw [← EQ.out] at ca4 ip4
          have HPP := Lib.hid (show PermP n (fac2 L4 i) by rw [EP.out]; exact HA4.out _ (List.getElem_mem _))
          have HPQ := Lib.hid (show PermP n (fac2 L4 (i + 1)) by rw [EQ.out]; exact HA4.out _ (List.getElem_mem _))
          obtain ⟨p4, hp4⟩ : ∃ p, p = fac2 L4 i := ⟨_, rfl⟩
          obtain ⟨q4, hq4⟩ : ∃ q, q = fac2 L4 (i + 1) := ⟨_, rfl⟩
          rw [← hp4] at ca3 ip3 HPP
          rw [← hq4] at ca4 ip4 HPQ
          have HPE := Lib.hid hp4
          have HQE := Lib.hid hq4
          have IP := Lib.hid ip3
          have IQ := Lib.hid ip4
          have HPB := Lib.hid (HPP.out.permB hn2)
          have HQL := Lib.hid (show q4.length ≤ 1000 by have := HPQ.out.len; omega)
          clear hv3 hgb3 cf3 ip3 st3 hv4 hgb4 cf4 ip4 st4 hp4 hq4 EP EQ hi4
          refine wp_region_up (by kernel_rfl) (by kernel_rfl) ?_
          have cau := up_cell ca3
          have cbu := up_cell ca4
          repeat (go_big_quiet_step ((go_at_call 123; exact calls_up (l04Extra_any _ _ _ _ _ p4 q4 (IP.out.up (UpOf.up _)) (IQ.out.up (UpOf.up _)) HPB.out HQL.out))))
          refine wpQuiet_nil ?_
          rintro u ⟨u0, hu⟩
          have gu4 := Lib.hid (hu ▸ u0.up)
          clear hu u0 cau cbu ca3 ca4
          go_wp2
          go_roundw
          case rel => exact ⟨L4, true, rfl, by rw [HPE.out, HQE.out], HL4, Lib.hid (HX9.out.up gu4.out), HP4, Lib.hid (Chg.trans hg3.out (Chg.trans HC9.out (Chg.of_up gu4.out)))⟩
          case measure =>
            rw [HMX.out, (HX9.out.up gu4.out).read]
            have := HM4.out
            omega
    | false =>
      have HTM := Lib.hid (ht1.out rfl)
      obtain ⟨w0, hw0⟩ : ∃ x, x = wr := ⟨_, rfl⟩
      subst hw0
      have HL1 := Lib.hid hl1
      clear hl1
      go_wp2
      have HBS := Lib.hid (show base ≤ w0.heap.size by have a := hg1.out.size; have b := HC0.out.size; omega)
      have HUW := Lib.hid (show Up w w0 from Chg.new HC0.out hg1.out (fun i hi e => by have := HOW.out _ e; omega))
      have HLN := Lib.hid (show L ≠ [] → 2 ≤ n from HN.out)
      go_loopw [10, 11, 12] (fun pw o i wr => ∃ (j h : Nat) (R : List (List Int)), j ≤ L.length ∧ i = .int .i64 (j : Int) ∧ pw = .int .i64 (h : Int) ∧ Hid (h = halfs n (L1.take j) ∧ R = pureF n (L1.take j)) ∧ Hid (LRow wr base o R) ∧ Hid (∀ b, o.ownBlock = some b → w0.heap.size ≤ b) ∧ Hid (Up w0 wr)) (fun _ _ i _ => L.length - (intOf i).toNat)
      case atStart => exact ⟨0, 0, [], by omega, rfl, rfl, Lib.hid ⟨rfl, rfl⟩, Lib.hid (LRow.made w0 base HBS.out), Lib.hid (fun b e => by injection e with e; have e : w0.heap.size = b := e; omega), Lib.hid ((Chg.refl _ _).alloc _)⟩
      case round =>
        obtain ⟨j, h, R, hj, rfl, rfl, hhR, ho, hob, hu⟩ := hrel
        by_cases hlt : j < L.length
        rotate_left
        · obtain rfl : j = L.length := by omega
          have htd : decide ((L.length : Int) < (L.length : Int)) = false := decide_eq_false (by omega)
          have HE := Lib.hid (show h = halfs n L1 ∧ R = pureF n L1 by have e := hhR.out; rw [List.take_of_length_le (by rw [HL1.out]; exact Nat.le_refl _)] at e; exact e)
          clear hhR
          go_wp2
          go_ret2
          exact ⟨L1, _, congrArg (fun x : Nat => Ending.returned (.tuple #[.int .i64 (x : Int), _])) HE.out.1, hs1.out, HTM.out, by rw [← HE.out.2]; exact ho.out, Chg.trans HUW.out hu.out⟩
        have hlt1 : j < L1.length := by have := HL1.out; omega
        obtain ⟨g, c', Ar, kr, hv, hgb, hc1, -, hi1, -⟩ := hx1.out.cell hlt1
        obtain ⟨rfl, rfl⟩ : Af = some ⟨g, 0, none⟩ ∧ cf = c' := by injection hv with x1 x2 x3; exact ⟨x1, x3⟩
        obtain ⟨p, hp⟩ : ∃ p, p = L1[j] := ⟨_, rfl⟩
        rw [← hp] at hc1 hi1
        have HTE := Lib.hid (show L1.take (j + 1) = L1.take j ++ [p] by rw [List.take_succ_eq_append_getElem hlt1, hp])
        have HPP := Lib.hid (show PermP n p by rw [hp]; exact HA1.out _ (List.getElem_mem hlt1))
        have f0 := Chg.cell hu.out hc1 id
        obtain ⟨hkr1, hkr2⟩ : p.length ≤ kr ∧ kr ≤ 9223372036854775807 := by obtain ⟨Az, cz, hz, z1, z2, -⟩ := hi1.shape; injection hz with x1 x2 x3; subst x3; exact ⟨z1, z2⟩
        have HKR := Lib.hid (And.intro hkr1 hkr2)
        have HI := Lib.hid (hi1.up hu.out)
        have hhb : h ≤ 100000 := by have := hhR.out.1; have := (halfs_le n (L1.take j)).1; rw [List.length_take] at this; omega
        have HRL := Lib.hid (show R.length ≤ 1000000 by have := hhR.out.2; have := (halfs_le n (L1.take j)).2; rw [List.length_take] at this; subst R; omega)
        have htd : decide ((j : Int) < (L.length : Int)) = true := decide_eq_true (by omega)
        have hj0 : (0 : Int) ≤ (j : Int) := by omega
        have hjl : (j : Int) < (L.length : Int) := by omega
        have hsz := hu.out.size
        obtain ⟨Eu, ku, hEu, -⟩ := ho.out.val
        subst hEu
        have HGB := Lib.hid hgb
        have HC1 := Lib.hid hc1
        clear hv hc1 hi1 hp hkr1 hkr2 hlt1 hgb
        go_wp2
        go_region_held3 (fun w' => w'.cell? ⟨g, j, none⟩ = some (.slice Ar p.length kr))
          (first | (exact f0) | (have q0 : World.cell? _ _ = _ := (by assumption); exact Chg.cell g1 q0 id))
          (first | (go_at_call 102; refine (l04Identity_any _ n (by omega)).mono ?_; rintro e w2 ⟨v1, rfl, k1, g1⟩; obtain ⟨A1, c1, rfl, -⟩ := k1.shape; have K1 := Lib.hid k1; have U2 := Lib.hid (show Up wr w2 from Chg.trans (Chg.refl Nowhere wr) (Chg.trans (by repeat (first | exact Chg.refl _ _ | apply Chg.drew | apply Chg.drewN | refine Chg.alloc ?_ _)) g1)); have hsz2 := U2.out.size; clear k1) | (go_at_call 125; refine (sIs_any _ _ _ _ _ p (identM n) (HI.out.up (Chg.trans U2.out (by repeat (first | exact Chg.refl _ _ | apply Chg.drew | apply Chg.drewN | refine Chg.alloc ?_ _)))) (K1.out.up (by repeat (first | exact Chg.refl _ _ | apply Chg.drew | apply Chg.drewN | refine Chg.alloc ?_ _)))).mono ?_; rintro e w3 ⟨rfl, g1⟩; have U3 := Lib.hid (show Up wr w3 from Chg.trans U2.out (Chg.trans (by repeat (first | exact Chg.refl _ _ | apply Chg.drew | apply Chg.drewN | refine Chg.alloc ?_ _)) g1))))
        clear g1 f0
        have hsz3 := U3.out.size
        have f0 := Chg.cell (Chg.trans hu.out U3.out) HC1.out id
        cases hid : sameL p (identM n) with
        | true =>
          have HID := Lib.hid (halfs_id (L := L1.take j) (of_decide_eq_true hid : p = identM n))
          clear hid
          go_wp2
          go_roundw
          case rel => exact ⟨j + 1, h, R, by omega, by go_num, rfl, Lib.hid (by rw [HTE.out, HID.out.1, HID.out.2]; exact hhR.out), Lib.hid (ho.out.up U3.out), hob, Lib.hid (Chg.trans hu.out U3.out)⟩
          case measure => first | (simp [intOf]; done) | (simp [intOf]; omega)
        | false =>
          have HNI := Lib.hid (show p ≠ identM n from of_decide_eq_false hid)
          clear hid
          go_wp2
          go_region_held3 (fun w' => w'.cell? ⟨g, j, none⟩ = some (.slice Ar p.length kr))
            (first | (exact f0) | (have q0 : World.cell? _ _ = _ := (by assumption); exact Chg.cell g1 q0 id))
            (first | (go_at_call 104; refine (l04Half_any _ n (by omega)).mono ?_; rintro e w4 ⟨v1, rfl, k1, g1⟩; obtain ⟨A1, c1, rfl, -⟩ := k1.shape; have K1 := Lib.hid k1; have U4 := Lib.hid (show Up wr w4 from Chg.trans U3.out (Chg.trans (by repeat (first | exact Chg.refl _ _ | apply Chg.drew | apply Chg.drewN | refine Chg.alloc ?_ _)) g1)); have hsz4 := U4.out.size; clear k1) | (go_at_call 125; refine (sIs_any _ _ _ _ _ p (halfM n) (HI.out.up (Chg.trans U4.out (by repeat (first | exact Chg.refl _ _ | apply Chg.drew | apply Chg.drewN | refine Chg.alloc ?_ _)))) (K1.out.up (by repeat (first | exact Chg.refl _ _ | apply Chg.drew | apply Chg.drewN | refine Chg.alloc ?_ _)))).mono ?_; rintro e w5 ⟨rfl, g1⟩; have U5 := Lib.hid (show Up wr w5 from Chg.trans U4.out (Chg.trans (by repeat (first | exact Chg.refl _ _ | apply Chg.drew | apply Chg.drewN | refine Chg.alloc ?_ _)) g1))))
          clear g1 f0
          have hsz5 := U5.out.size
          have f0 := Chg.cell (Chg.trans hu.out U5.out) HC1.out id
          cases hid : sameL p (halfM n) with
          | true =>
            have HID := Lib.hid (halfs_half (L := L1.take j) HNI.out (of_decide_eq_true hid : p = halfM n))
            clear hid
            go_wp2
            go_roundw
            case rel => exact ⟨j + 1, h + 1, R, by omega, by go_num, by go_num, Lib.hid (by rw [HTE.out, HID.out.1, HID.out.2]; exact ⟨congrArg (· + 1) hhR.out.1, hhR.out.2⟩), Lib.hid (ho.out.up U5.out), hob, Lib.hid (Chg.trans hu.out U5.out)⟩
            case measure => first | (simp [intOf]; done) | (simp [intOf]; omega)
          | false =>
            have HID := Lib.hid (halfs_oth (L := L1.take j) HNI.out (show p ≠ halfM n from of_decide_eq_false hid))
            clear hid
            go_wp2_with (at_builtin; refine wp_append_lrow rfl _ _ rfl base _ R rfl (ho.out.up (Chg.trans U5.out ((Chg.refl _ _).alloc _))) w5.heap.size p Ar kr rfl (by rw [cell_new]; rfl) (by have h1 := HI.out.up (Chg.trans U5.out ((Chg.refl Nowhere w5).alloc (.cells #[.slice Ar p.length kr] 23))); exact h1.mono (fun b _ e => ⟨e.1, by have := e.2.1; simp; omega, fun e2 => by have := hob.out _ e2; omega⟩)) HKR.out HRL.out (by have := HBS.out; simp; omega) ?_; intro v' w' h1 h2 h3; have HO := Lib.hid h1; have HOB := Lib.hid (show ∀ b, v'.ownBlock = some b → w0.heap.size ≤ b from fun b hb => (h3 b hb).elim (hob.out b) (fun h => by simp at h; omega)); have HU := Lib.hid (show Up w0 w' from Chg.new (Chg.trans hu.out (Chg.trans U5.out ((Chg.refl _ _).alloc _))) h2 (fun i hi e => by have := hob.out _ e; omega)); clear h1 h2 h3)
            go_roundw
            case rel => exact ⟨j + 1, h, R ++ [p], by omega, by go_num, rfl, Lib.hid (by rw [HTE.out, HID.out.1, HID.out.2]; exact ⟨hhR.out.1, congrArg (· ++ [p]) hhR.out.2⟩), HO, HOB, HU⟩
            case measure => first | (simp [intOf]; done) | (simp [intOf]; omega)
end Go.Proofs.Ytplabnjdhkmmkaa
end
section
set_option linter.unusedSimpArgs false
set_option linter.unusedVariables false
set_option maxHeartbeats 4000000
namespace Go.Proofs.Ytplabnjdhkmmkaa
open Go.ChangeShapes Go.WideShapes Go.ChangeAt Go.RowKit
theorem info22 : (Try.prog.info? 2).map (fun i => (i.zero, i.size, i.bytes)) = some (some (.int .i64 0), 1, 8) := by kernel_rfl
theorem take_drop {α β : Type} (f : α → β) (xs : List α) (l : List β) (h : l.take xs.length = xs.map f) (hl : xs.length ≤ l.length) : l.take (xs.length - 1) = (xs.dropLast).map f := by
  rw [List.map_dropLast, ← h, List.dropLast_eq_take, List.take_take, List.length_take]
  congr 1
  omega
theorem OwnI.open_ {w : World} {base : Nat} {v : Value} {xs : List Int} (h : OwnI w base v xs) (hp : 0 < xs.length) : ∃ g cap, v = .slice (some ⟨g, 0, none⟩) xs.length cap ∧ xs.length ≤ cap ∧ cap ≤ 9223372036854775807 ∧ (∀ j, (hj : j < xs.length) → w.cell? ⟨g, j, none⟩ = some (.int .i64 xs[j])) ∧ OwnI w base (.slice (some ⟨g, 0, none⟩) (xs.length - 1) cap) xs.dropLast := by
  have hi := h.ints
  obtain ⟨⟨h1, h2⟩, h3⟩ := h
  rcases h2 with h2 | ⟨g, cap, cur, rfl, hg, hh, hc, hm, hs, ht⟩
  · omega
  · have hm' : cap ≤ 9223372036854775807 := by unfold Go.maxLen at hm; omega
    obtain ⟨b, o, he, -, hcs⟩ := Ints.ix hi hp
    obtain ⟨rfl, rfl⟩ : g = b ∧ 0 = o := by simpa using he
    have hsz : cur.toList.length = cap := by simpa using hs
    refine ⟨g, cap, rfl, hc, hm', fun j hj => ?_, ⟨⟨by simp, .inr ⟨g, cap, cur, by rw [List.length_dropLast], hg, hh, by rw [List.length_dropLast]; omega, hm, hs, ?_⟩⟩, fun x hx => h3 x ((List.dropLast_sublist xs).subset hx)⟩⟩
    · have := hcs j hj
      rw [ix_eq hj, Nat.zero_add] at this
      exact this
    · rw [Nat.mul_one] at ht ⊢
      rw [List.length_dropLast]
      exact take_drop _ xs _ ht (by rw [hsz]; exact hc)
theorem redStep_yes {out : List Int} {k : Int} (hp : 0 < out.length) (h : out[out.length - 1] = -k) : redStep out k = out.dropLast := by
  unfold redStep
  rw [if_pos]
  rw [List.getLast?_eq_getElem?, List.getElem?_eq_getElem (by omega), h]
theorem redStep_no {out : List Int} {k : Int} (hp : 0 < out.length) (h : ¬ out[out.length - 1] = -k) : redStep out k = out ++ [k] := by
  unfold redStep
  rw [if_neg]
  rw [List.getLast?_eq_getElem?, List.getElem?_eq_getElem (by omega)]
  simpa using h
theorem redStep_nil {out : List Int} {k : Int} (hp : out.length = 0) : redStep out k = out ++ [k] := by
  obtain rfl := List.eq_nil_of_length_eq_zero hp
  rfl
theorem reduced_any (w : World) (S : Nat → Prop) (v : Value) (ws : List Int) (h : Ints w S v ws) (hl : ws.length ≤ 100000) (hb : ∀ x ∈ ws, -1000 ≤ x ∧ x ≤ 1000) :
    Calls Try.prog 107 #[v] w fun e w' => ∃ v', e = .returned v' ∧ Ints w' (New w.heap.size w'.heap.size) v' (redM ws) ∧ Up w w' := by
  obtain ⟨A, c, rfl, hlc, hcm, -⟩ := h.shape
  have H := Lib.hid h
  have HX := Lib.hid (fun j (hj : j < ws.length) => (show I64 ws[j] from (by have := hb ws[j] (List.getElem_mem hj); unfold I64; omega)))
  clear h
  obtain ⟨i0, hi, hz0, hz1, hz2⟩ := info_parts info22
  have hmk : ∀ u : World, (Instr.makeSlice 23 (.int .i64 0) (.int .i64 (ws.length : Int))).run Try.prog u =
      .ok (.slice (some ⟨u.heap.size, 0, none⟩) 0 ws.length) (u.alloc (.cells (madeCells #[.int .i64 0] ws.length) 2)) := fun u => by
    have h := run_make (P := Try.prog) u 23 2 i0 (.int .i64 0) Try.underlying23 hi hz0 .i64 .i64 (0 : Int) (ws.length : Int) (by omega) (by omega) (by rw [hz2]; omega) (by omega)
    simpa [hz1, Value.cells] using h
  have M0 := Lib.hid (show OwnI (w.alloc (.cells (madeCells #[.int .i64 0] ws.length) 2)) w.heap.size (.slice (some ⟨w.heap.size, 0, none⟩) 0 ws.length) [] from ⟨⟨rfl, .inr ⟨w.heap.size, ws.length, madeCells #[.int .i64 0] ws.length, rfl, Nat.le_refl _, heap_new_at rfl, Nat.zero_le _, by unfold Go.maxLen; omega, (size_madeCells _ _).trans (Nat.mul_one _).symm, by simp⟩⟩, by simp⟩)
  go_enter Try.func107, Try.ntmps107
  go_wp2
  have Hi := Lib.hid hmk
  clear hmk hi hz0 hz1 hz2
  go_loopw [3, 5, 11] (fun v _ i wr => ∃ j : Nat, j ≤ ws.length ∧ i = .int .i64 j ∧ Hid (OwnI wr w.heap.size v (redM (ws.take j))) ∧ Hid (Up w wr)) (fun _ _ i _ => ws.length - (intOf i).toNat)
  case atStart => exact ⟨0, by omega, rfl, M0.out, (Chg.refl _ _).alloc _⟩
  clear M0
  case round =>
    obtain ⟨j, hj, rfl, ho, hg⟩ := hrel
    by_cases hlt : j < ws.length
    rotate_left
    · obtain rfl : j = ws.length := by omega
      go_wp2
      go_ret
      exact ⟨_, rfl, by have := ho.out.ints; rw [List.take_length] at this; exact this, hg.out⟩
    obtain ⟨b1, o1, rfl, -, hc⟩ := H.out.ix hlt
    have f1 := Chg.cell hg.out (hc j hlt) id
    rw [ix_eq hlt] at f1
    have HI := Lib.hid (HX.out j hlt)
    have HT := Lib.hid (redM_take hlt)
    have hrl := redM_len (ws.take j)
    rw [List.length_take] at hrl
    clear hc
    obtain ⟨R, hR⟩ : ∃ R, redM (ws.take j) = R := ⟨_, rfl⟩
    rw [hR] at ho hrl HT
    obtain ⟨k, hk⟩ : ∃ k, ws[j] = k := ⟨_, rfl⟩
    have hkb : -1000 ≤ k ∧ k ≤ 1000 := by rw [← hk]; exact hb ws[j] (List.getElem_mem hlt)
    rw [hk] at f1 HT HI
    clear hR hk
    have HL := Lib.hid (show R.length ≤ 1099511627776 by omega)
    have hsz := hg.out.size
    skip
    by_cases hp : 0 < R.length
    rotate_left
    · have hp0 : R.length = 0 := by omega
      obtain ⟨Av, cv, rfl, -, -, -⟩ := ho.out.ints.shape
      have hdp : decide ((0 : Int) < (R.length : Int)) = false := decide_eq_false (by omega)
      have HS := Lib.hid (show redM (ws.take (j + 1)) = R ++ [k] by rw [HT.out]; exact redStep_nil hp0)
      go_wp2_with (first | (at_builtin; refine wp_append_int rfl _ _ rfl w.heap.size _ R rfl (OwnI.alloc (ho.out.up (by repeat (first | exact Chg.refl _ _ | apply Chg.drew | apply Chg.drewN | refine Chg.alloc ?_ _))) _) _ k rfl (cell_new _ _ _ _) HI.out HL.out ?_ ?_; (simp; omega); intro v' w1 ho1 _ hg1; have HO := Lib.hid ho1; have HG := Lib.hid (Chg.new (Chg.alloc (Chg.trans hg.out (by repeat (first | exact Chg.refl _ _ | apply Chg.drew | apply Chg.drewN | refine Chg.alloc ?_ _))) _) hg1 (fun i hi => by omega)); clear ho1 hg1))
      go_roundw
      case rel => exact ⟨j + 1, by omega, by go_num, by rw [HS.out]; exact HO.out, HG.out⟩
      case measure => simp [intOf]; omega
    obtain ⟨g, cap, rfl, hcap, hcap2, hcs, hdrop⟩ := ho.out.open_ hp
    have hdp : decide ((0 : Int) < (R.length : Int)) = true := decide_eq_true (by omega)
    have hll : R.length - 1 < R.length := by omega
    have fl := hcs (R.length - 1) hll
    have hcast : ((R.length - 1 : Nat) : Int) = (R.length : Int) - 1 := by omega
    have HD := Lib.hid hdrop
    clear hcs hdrop
    obtain ⟨z, hz⟩ : ∃ z, R[R.length - 1] = z := ⟨_, rfl⟩
    rw [hz] at fl
    skip
    by_cases he : z = -k
    · have hed : (z == -k) = true := by simpa using he
      have HS := Lib.hid (show redM (ws.take (j + 1)) = R.dropLast by rw [HT.out]; exact redStep_yes hp (hz.trans he))
      clear hz he
      go_wp2
      go_roundw
      case rel => exact ⟨j + 1, by omega, by go_num, by rw [HS.out]; exact HD.out.up (by repeat (first | exact Chg.refl _ _ | apply Chg.drew | apply Chg.drewN | refine Chg.alloc ?_ _)), Chg.trans hg.out (by repeat (first | exact Chg.refl _ _ | apply Chg.drew | apply Chg.drewN | refine Chg.alloc ?_ _))⟩
      case measure => simp [intOf]; omega
    have hed : (z == -k) = false := by simpa using he
    have HE := Lib.hid (show redStep R k = R ++ [k] from redStep_no hp (by rw [hz]; exact he))
    clear hz he HD
    have HS := Lib.hid (show redM (ws.take (j + 1)) = R ++ [k] by rw [HT.out]; exact HE.out)
    go_wp2_with (first | (at_builtin; refine wp_append_int rfl _ _ rfl w.heap.size _ R rfl (OwnI.alloc (ho.out.up (by repeat (first | exact Chg.refl _ _ | apply Chg.drew | apply Chg.drewN | refine Chg.alloc ?_ _))) _) _ k rfl (cell_new _ _ _ _) HI.out HL.out ?_ ?_; (simp; omega); intro v' w1 ho1 _ hg1; have HO := Lib.hid ho1; have HG := Lib.hid (Chg.new (Chg.alloc (Chg.trans hg.out (by repeat (first | exact Chg.refl _ _ | apply Chg.drew | apply Chg.drewN | refine Chg.alloc ?_ _))) _) hg1 (fun i hi => by omega)); clear ho1 hg1))
    go_roundw
    case rel => exact ⟨j + 1, by omega, by go_num, by rw [HS.out]; exact HO.out, HG.out⟩
    case measure => simp [intOf]; omega
theorem l03ReduceI_any (w : World) (S : Nat → Prop) (v : Value) (ws : List Int) (h : Ints w S v ws) (hl : ws.length ≤ 100000) (hb : ∀ x ∈ ws, -1000 ≤ x ∧ x ≤ 1000) :
    Calls Try.prog 98 #[v] w fun e w' => ∃ v', e = .returned v' ∧ OwnI w' w.heap.size v' (redM ws) ∧ Up w w' := by
  obtain ⟨A, c, rfl, hlc, hcm, -⟩ := h.shape
  have H := Lib.hid h
  have HX := Lib.hid (fun j (hj : j < ws.length) => (show I64 ws[j] from (by have := hb ws[j] (List.getElem_mem hj); unfold I64; omega)))
  clear h
  have M0 := Lib.hid (OwnI.made w w.heap.size (Nat.le_refl _))
  go_enter Try.func98, Try.ntmps98
  go_wp2
  go_loopw [3, 4] (fun v i wr => ∃ j : Nat, j ≤ ws.length ∧ i = .int .i64 j ∧ Hid (OwnI wr w.heap.size v (redM (ws.take j))) ∧ Hid (Up w wr)) (fun _ i _ => ws.length - (intOf i).toNat)
  case atStart => exact ⟨0, by omega, rfl, M0.out, (Chg.refl _ _).alloc _⟩
  clear M0
  case round =>
    obtain ⟨j, hj, rfl, ho, hg⟩ := hrel
    by_cases hlt : j < ws.length
    rotate_left
    · obtain rfl : j = ws.length := by omega
      go_wp2
      go_ret
      exact ⟨_, rfl, by have := ho.out; rw [List.take_length] at this; exact this, hg.out⟩
    obtain ⟨b1, o1, rfl, -, hc⟩ := H.out.ix hlt
    have f1 := Chg.cell hg.out (hc j hlt) id
    rw [ix_eq hlt] at f1
    have HI := Lib.hid (HX.out j hlt)
    have HT := Lib.hid (redM_take hlt)
    have hrl := redM_len (ws.take j)
    rw [List.length_take] at hrl
    clear hc
    obtain ⟨R, hR⟩ : ∃ R, redM (ws.take j) = R := ⟨_, rfl⟩
    rw [hR] at ho hrl HT
    obtain ⟨k, hk⟩ : ∃ k, ws[j] = k := ⟨_, rfl⟩
    have hkb : -1000 ≤ k ∧ k ≤ 1000 := by rw [← hk]; exact hb ws[j] (List.getElem_mem hlt)
    rw [hk] at f1 HT HI
    clear hR hk
    have HL := Lib.hid (show R.length ≤ 1099511627776 by omega)
    have hsz := hg.out.size
    skip
    by_cases hp : 0 < R.length
    rotate_left
    · have hp0 : R.length = 0 := by omega
      obtain ⟨Av, cv, rfl, -, -, -⟩ := ho.out.ints.shape
      have hdp : decide ((0 : Int) < (R.length : Int)) = false := decide_eq_false (by omega)
      have HS := Lib.hid (show redM (ws.take (j + 1)) = R ++ [k] by rw [HT.out]; exact redStep_nil hp0)
      go_wp2
      go_quiet (fail)
      go_wp2_with (first | (at_builtin; refine wp_append_int rfl _ _ rfl w.heap.size _ R rfl (OwnI.alloc (ho.out.up (by repeat (first | exact Chg.refl _ _ | apply Chg.drew | apply Chg.drewN | refine Chg.alloc ?_ _))) _) _ k rfl (cell_new _ _ _ _) HI.out HL.out ?_ ?_; (simp; omega); intro v' w1 ho1 _ hg1; have HO := Lib.hid ho1; have HG := Lib.hid (Chg.new (Chg.alloc (Chg.trans hg.out (by repeat (first | exact Chg.refl _ _ | apply Chg.drew | apply Chg.drewN | refine Chg.alloc ?_ _))) _) hg1 (fun i hi => by omega)); clear ho1 hg1))
      go_roundw
      case rel => exact ⟨j + 1, by omega, by go_num, by rw [HS.out]; exact HO.out, HG.out⟩
      case measure => simp [intOf]; omega
    obtain ⟨g, cap, rfl, hcap, hcap2, hcs, hdrop⟩ := ho.out.open_ hp
    have hdp : decide ((0 : Int) < (R.length : Int)) = true := decide_eq_true (by omega)
    have hll : R.length - 1 < R.length := by omega
    have fl := hcs (R.length - 1) hll
    have hcast : ((R.length - 1 : Nat) : Int) = (R.length : Int) - 1 := by omega
    have HD := Lib.hid hdrop
    clear hcs hdrop
    obtain ⟨z, hz⟩ : ∃ z, R[R.length - 1] = z := ⟨_, rfl⟩
    rw [hz] at fl
    skip
    by_cases he : z = -k
    · have hed : (z == -k) = true := by simpa using he
      have HS := Lib.hid (show redM (ws.take (j + 1)) = R.dropLast by rw [HT.out]; exact redStep_yes hp (hz.trans he))
      clear hz he
      go_wp2
      go_quiet (fail)
      go_wp2
      go_roundw
      case rel => exact ⟨j + 1, by omega, by go_num, by rw [HS.out]; exact HD.out.up (by repeat (first | exact Chg.refl _ _ | apply Chg.drew | apply Chg.drewN | refine Chg.alloc ?_ _)), Chg.trans hg.out (by repeat (first | exact Chg.refl _ _ | apply Chg.drew | apply Chg.drewN | refine Chg.alloc ?_ _))⟩
      case measure => simp [intOf]; omega
    have hed : (z == -k) = false := by simpa using he
    have HE := Lib.hid (show redStep R k = R ++ [k] from redStep_no hp (by rw [hz]; exact he))
    clear hz he HD
    have HS := Lib.hid (show redM (ws.take (j + 1)) = R ++ [k] by rw [HT.out]; exact HE.out)
    go_wp2
    go_quiet (fail)
    go_wp2_with (first | (at_builtin; refine wp_append_int rfl _ _ rfl w.heap.size _ R rfl (OwnI.alloc (ho.out.up (by repeat (first | exact Chg.refl _ _ | apply Chg.drew | apply Chg.drewN | refine Chg.alloc ?_ _))) _) _ k rfl (cell_new _ _ _ _) HI.out HL.out ?_ ?_; (simp; omega); intro v' w1 ho1 _ hg1; have HO := Lib.hid ho1; have HG := Lib.hid (Chg.new (Chg.alloc (Chg.trans hg.out (by repeat (first | exact Chg.refl _ _ | apply Chg.drew | apply Chg.drewN | refine Chg.alloc ?_ _))) _) hg1 (fun i hi => by omega)); clear ho1 hg1))
    go_roundw
    case rel => exact ⟨j + 1, by omega, by go_num, by rw [HS.out]; exact HO.out, HG.out⟩
    case measure => simp [intOf]; omega
end Go.Proofs.Ytplabnjdhkmmkaa
end
