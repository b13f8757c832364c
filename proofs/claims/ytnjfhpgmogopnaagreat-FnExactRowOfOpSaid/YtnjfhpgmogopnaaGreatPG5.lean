/- The operations with which two columns change places. Condition: a small needle. Appending operations at a step of a region that draws its order. No condition but room. The letters of rows, and the operations of their crossings, on both sides. No condition but room. Moves: one move as data, its tests, its copy. No condition. The laws' own copies of slices of records, and their sizes. No condition but room. The operations of letters of columns; CrossingOps on both sides. No condition but room. slices.Reverse on numbers; the order of a row's stitches on both sides; the first of each run of needles. No condition but room. -/
import Derived.Test.YtnjfhpgmogopnaaGreatPG4
import Derived.Test.YtnjfhpgmogopnaaGreatPG1
import Derived.Deep.RegionHeld3
import Derived.Lib.SmallJoins
import Derived.RegionTactic
import Derived.ChangeAlike
namespace Go.Proofs.YtnjfhpgmogopnaaGreat
open Go.ChangeShapes Go.WideShapes Go.ChangeAt Go.RowKit
def crossM (l : Int) (f : Bool) : List OpM := if f then rackM (l + 2) (l - 1) ++ rackM l (l + 2) ++ rackM (l - 1) l else rackM l (l + 3) ++ rackM (l + 2) l ++ rackM (l + 3) (l + 2)
theorem crossM_length (l : Int) (f : Bool) : (crossM l f).length = 12 := by
  cases f <;> simp [crossM, rackM]
set_option maxHeartbeats 4000000 in
set_option maxRecDepth 100000 in
theorem crossColumns_any (w : World) (l : Int) (f : Bool) (h0 : 1 ≤ l) (h1 : l ≤ 500) :
    Calls Tryz.prog 144 #[.int .i64 l, .bool f] w fun e w' => ∃ v, e = .returned v ∧ Ops w' (New w.heap.size w'.heap.size) v (crossM l f) ∧ Up w w' := by
  cases f
  · go_enter Tryz.func144, Tryz.ntmps144
    go_wp2_with fail
    refine (rackOps_any _ (l) (l + 3) (by omega) (by omega)).mono ?_
    rintro e w1 ⟨v1, rfl, k1, g1⟩
    obtain ⟨A1, c1, rfl, hl1, hc1, -⟩ := k1.shape
    have hz1 := g1.size
    have K1 := Lib.hid k1
    have G1 := Lib.hid g1
    clear k1 g1
    go_wp2_with fail
    refine (rackOps_any _ (l + 2) (l) (by omega) (by omega)).mono ?_
    rintro e w2 ⟨v2, rfl, k2, g2⟩
    obtain ⟨A2, c2, rfl, hl2, hc2, -⟩ := k2.shape
    have hz2 := g2.size
    have K1' := Lib.hid (K1.out.up g2)
    have K2 := Lib.hid k2
    have G2 := Lib.hid (Chg.trans G1.out g2)
    clear K1 G1 k2 g2
    go_wp2_with fail
    refine (rackOps_any _ (l + 3) (l + 2) (by omega) (by omega)).mono ?_
    rintro e w3 ⟨v3, rfl, k3, g3⟩
    obtain ⟨A3, c3, rfl, hl3, hc3, -⟩ := k3.shape
    have hz3 := g3.size
    have K1 := Lib.hid (K1'.out.up g3)
    have K2' := Lib.hid (K2.out.up g3)
    have K3 := Lib.hid k3
    have G3 := Lib.hid (Chg.trans G2.out g3)
    clear K1' K2 G2 k3 g3
    go_wp2_with fail
    refine (concatOps_any _ (fun _ => True) (fun _ => True) _ [_, _, _] [rackM (l) (l + 3), rackM (l + 2) (l), rackM (l + 3) (l + 2)] rfl (Raw.of_block (heap_new_at rfl) rfl trivial rfl (by simp) (by omega)) ?_ (by simp [sumLen, rackM])).mono ?_
    · intro i u y hu hy
      match i, hu, hy with
      | 0, hu, hy => injection hu with hu; injection hy with hy; subst hu hy; exact (K1.out.alloc' _).mono fun _ _ _ => trivial
      | 1, hu, hy => injection hu with hu; injection hy with hy; subst hu hy; exact (K2'.out.alloc' _).mono fun _ _ _ => trivial
      | 2, hu, hy => injection hu with hu; injection hy with hy; subst hu hy; exact (K3.out.alloc' _).mono fun _ _ _ => trivial
      | i + 3, hu, hy => simp at hu
    rintro e w4 ⟨v4, rfl, k4, g4⟩
    have K4 := Lib.hid k4
    have G4 := Lib.hid g4
    clear k4 g4
    go_wp2
    go_ret
    refine ⟨_, rfl, ?_, Chg.trans (G3.out.alloc _) G4.out⟩
    have h5 := K4.out.mono (T := New w.heap.size w4.heap.size) (fun b _ hb => ⟨by have := hb.1; simp at this; omega, hb.2⟩)
    simpa [crossM] using h5
  · go_enter Tryz.func144, Tryz.ntmps144
    go_wp2_with fail
    refine (rackOps_any _ (l + 2) (l - 1) (by omega) (by omega)).mono ?_
    rintro e w1 ⟨v1, rfl, k1, g1⟩
    obtain ⟨A1, c1, rfl, hl1, hc1, -⟩ := k1.shape
    have hz1 := g1.size
    have K1 := Lib.hid k1
    have G1 := Lib.hid g1
    clear k1 g1
    go_wp2_with fail
    refine (rackOps_any _ (l) (l + 2) (by omega) (by omega)).mono ?_
    rintro e w2 ⟨v2, rfl, k2, g2⟩
    obtain ⟨A2, c2, rfl, hl2, hc2, -⟩ := k2.shape
    have hz2 := g2.size
    have K1' := Lib.hid (K1.out.up g2)
    have K2 := Lib.hid k2
    have G2 := Lib.hid (Chg.trans G1.out g2)
    clear K1 G1 k2 g2
    go_wp2_with fail
    refine (rackOps_any _ (l - 1) (l) (by omega) (by omega)).mono ?_
    rintro e w3 ⟨v3, rfl, k3, g3⟩
    obtain ⟨A3, c3, rfl, hl3, hc3, -⟩ := k3.shape
    have hz3 := g3.size
    have K1 := Lib.hid (K1'.out.up g3)
    have K2' := Lib.hid (K2.out.up g3)
    have K3 := Lib.hid k3
    have G3 := Lib.hid (Chg.trans G2.out g3)
    clear K1' K2 G2 k3 g3
    go_wp2_with fail
    refine (concatOps_any _ (fun _ => True) (fun _ => True) _ [_, _, _] [rackM (l + 2) (l - 1), rackM (l) (l + 2), rackM (l - 1) (l)] rfl (Raw.of_block (heap_new_at rfl) rfl trivial rfl (by simp) (by omega)) ?_ (by simp [sumLen, rackM])).mono ?_
    · intro i u y hu hy
      match i, hu, hy with
      | 0, hu, hy => injection hu with hu; injection hy with hy; subst hu hy; exact (K1.out.alloc' _).mono fun _ _ _ => trivial
      | 1, hu, hy => injection hu with hu; injection hy with hy; subst hu hy; exact (K2'.out.alloc' _).mono fun _ _ _ => trivial
      | 2, hu, hy => injection hu with hu; injection hy with hy; subst hu hy; exact (K3.out.alloc' _).mono fun _ _ _ => trivial
      | i + 3, hu, hy => simp at hu
    rintro e w4 ⟨v4, rfl, k4, g4⟩
    have K4 := Lib.hid k4
    have G4 := Lib.hid g4
    clear k4 g4
    go_wp2
    go_ret
    refine ⟨_, rfl, ?_, Chg.trans (G3.out.alloc _) G4.out⟩
    have h5 := K4.out.mono (T := New w.heap.size w4.heap.size) (fun b _ hb => ⟨by have := hb.1; simp at this; omega, hb.2⟩)
    simpa [crossM] using h5
set_option maxHeartbeats 4000000 in
set_option maxRecDepth 100000 in
theorem l22Cross_any (w : World) (l : Int) (f : Bool) (h0 : 1 ≤ l) (h1 : l ≤ 500) :
    Calls Tryz.prog 130 #[.int .i64 l, .bool f] w fun e w' => ∃ v, e = .returned v ∧ Ops w' (New w.heap.size w'.heap.size) v (crossM l f) ∧ Up w w' := by
  cases f
  · go_enter Tryz.func130, Tryz.ntmps130
    have HO := Lib.hid (OwnO.made w w.heap.size (Nat.le_refl _))
    have HG := Lib.hid ((Chg.refl Nowhere w).alloc (.cells #[] 66))
    go_wp2_with fail
    refine (l21Over_any _ (l) (l + 3) (by omega) (by omega)).mono ?_
    rintro e w0a ⟨v0, rfl, k1, g1⟩
    obtain ⟨A0, c0, rfl, hl0, hc0, -⟩ := k1.shape
    have HO1 := Lib.hid (HO.out.up g1)
    have HG1 := Lib.hid (Chg.trans HG.out g1)
    have HK1 := Lib.hid k1
    have hz0a := HG1.out.size
    clear HO HG k1 g1
    go_wp2_with (first | (at_builtin; refine wp_append_ops rfl _ _ rfl w.heap.size _ ([]) rfl HO1.out _ _ (rackM (l) (l + 3)) rfl HK1.out (by simp [rackM]) ?_ ?_; (first | omega | (simp; omega)); intro v' w0b ho1 _ hg1; have HO := Lib.hid ho1; have HG := Lib.hid (Chg.new HG1.out hg1 (fun i hi => by omega)); clear ho1 hg1 HO1 HG1 HK1))
    refine (l21Over_any _ (l + 2) (l) (by omega) (by omega)).mono ?_
    rintro e w1a ⟨v1, rfl, k1, g1⟩
    obtain ⟨A1, c1, rfl, hl1, hc1, -⟩ := k1.shape
    have HO1 := Lib.hid (HO.out.up g1)
    have HG1 := Lib.hid (Chg.trans HG.out g1)
    have HK1 := Lib.hid k1
    have hz1a := HG1.out.size
    clear HO HG k1 g1
    go_wp2_with (first | (at_builtin; refine wp_append_ops rfl _ _ rfl w.heap.size _ (([]) ++ rackM (l) (l + 3)) rfl HO1.out _ _ (rackM (l + 2) (l)) rfl HK1.out (by simp [rackM]) ?_ ?_; (first | omega | (simp; omega)); intro v' w1b ho1 _ hg1; have HO := Lib.hid ho1; have HG := Lib.hid (Chg.new HG1.out hg1 (fun i hi => by omega)); clear ho1 hg1 HO1 HG1 HK1))
    refine (l21Over_any _ (l + 3) (l + 2) (by omega) (by omega)).mono ?_
    rintro e w2a ⟨v2, rfl, k1, g1⟩
    obtain ⟨A2, c2, rfl, hl2, hc2, -⟩ := k1.shape
    have HO1 := Lib.hid (HO.out.up g1)
    have HG1 := Lib.hid (Chg.trans HG.out g1)
    have HK1 := Lib.hid k1
    have hz2a := HG1.out.size
    clear HO HG k1 g1
    go_wp2_with (first | (at_builtin; refine wp_append_ops rfl _ _ rfl w.heap.size _ ((([]) ++ rackM (l) (l + 3)) ++ rackM (l + 2) (l)) rfl HO1.out _ _ (rackM (l + 3) (l + 2)) rfl HK1.out (by simp [rackM]) ?_ ?_; (first | omega | (simp; omega)); intro v' w2b ho1 _ hg1; have HO := Lib.hid ho1; have HG := Lib.hid (Chg.new HG1.out hg1 (fun i hi => by omega)); clear ho1 hg1 HO1 HG1 HK1))
    go_ret
    refine ⟨_, rfl, ?_, HG.out⟩
    simpa [crossM] using HO.out.ops
  · go_enter Tryz.func130, Tryz.ntmps130
    have HO := Lib.hid (OwnO.made w w.heap.size (Nat.le_refl _))
    have HG := Lib.hid ((Chg.refl Nowhere w).alloc (.cells #[] 66))
    go_wp2_with fail
    refine (l21Over_any _ (l + 2) (l - 1) (by omega) (by omega)).mono ?_
    rintro e w0a ⟨v0, rfl, k1, g1⟩
    obtain ⟨A0, c0, rfl, hl0, hc0, -⟩ := k1.shape
    have HO1 := Lib.hid (HO.out.up g1)
    have HG1 := Lib.hid (Chg.trans HG.out g1)
    have HK1 := Lib.hid k1
    have hz0a := HG1.out.size
    clear HO HG k1 g1
    go_wp2_with (first | (at_builtin; refine wp_append_ops rfl _ _ rfl w.heap.size _ ([]) rfl HO1.out _ _ (rackM (l + 2) (l - 1)) rfl HK1.out (by simp [rackM]) ?_ ?_; (first | omega | (simp; omega)); intro v' w0b ho1 _ hg1; have HO := Lib.hid ho1; have HG := Lib.hid (Chg.new HG1.out hg1 (fun i hi => by omega)); clear ho1 hg1 HO1 HG1 HK1))
    refine (l21Over_any _ (l) (l + 2) (by omega) (by omega)).mono ?_
    rintro e w1a ⟨v1, rfl, k1, g1⟩
    obtain ⟨A1, c1, rfl, hl1, hc1, -⟩ := k1.shape
    have HO1 := Lib.hid (HO.out.up g1)
    have HG1 := Lib.hid (Chg.trans HG.out g1)
    have HK1 := Lib.hid k1
    have hz1a := HG1.out.size
    clear HO HG k1 g1
    go_wp2_with (first | (at_builtin; refine wp_append_ops rfl _ _ rfl w.heap.size _ (([]) ++ rackM (l + 2) (l - 1)) rfl HO1.out _ _ (rackM (l) (l + 2)) rfl HK1.out (by simp [rackM]) ?_ ?_; (first | omega | (simp; omega)); intro v' w1b ho1 _ hg1; have HO := Lib.hid ho1; have HG := Lib.hid (Chg.new HG1.out hg1 (fun i hi => by omega)); clear ho1 hg1 HO1 HG1 HK1))
    refine (l21Over_any _ (l - 1) (l) (by omega) (by omega)).mono ?_
    rintro e w2a ⟨v2, rfl, k1, g1⟩
    obtain ⟨A2, c2, rfl, hl2, hc2, -⟩ := k1.shape
    have HO1 := Lib.hid (HO.out.up g1)
    have HG1 := Lib.hid (Chg.trans HG.out g1)
    have HK1 := Lib.hid k1
    have hz2a := HG1.out.size
    clear HO HG k1 g1
    go_wp2_with (first | (at_builtin; refine wp_append_ops rfl _ _ rfl w.heap.size _ ((([]) ++ rackM (l + 2) (l - 1)) ++ rackM (l) (l + 2)) rfl HO1.out _ _ (rackM (l - 1) (l)) rfl HK1.out (by simp [rackM]) ?_ ?_; (first | omega | (simp; omega)); intro v' w2b ho1 _ hg1; have HO := Lib.hid ho1; have HG := Lib.hid (Chg.new HG1.out hg1 (fun i hi => by omega)); clear ho1 hg1 HO1 HG1 HK1))
    go_ret
    refine ⟨_, rfl, ?_, HG.out⟩
    simpa [crossM] using HO.out.ops
end Go.Proofs.YtnjfhpgmogopnaaGreat
namespace Go.Proofs.YtnjfhpgmogopnaaGreat
open Go.ChangeShapes Go.WideShapes Go.ChangeAt Go.RowKit
set_option maxRecDepth 100000 in
/-- the same at a step of a region that draws its order -/
theorem step_appendOps {w : World} {ops : Array Oper} {o : Oper} {a : Act} {K : Act → World → Prop} {Q : Exit → Act → World → Prop} {E : Prop} (hgd : o.guard = none) (s x : Operand)
    (ho : o.op = .call { callee := .builtin .append, args := #[s, x], argTypes := #[41, 41] })
    (base : Nat) (v : Value) (xs : List OpM) (hs : a.eval s = v) (hown : OwnO w base v xs)
    (S : Nat → Prop) (u : Value) (ys : List OpM) (hx : a.eval x = u) (hsrc : Ops w S u ys) (hlen : xs.length + ys.length ≤ 1099511627776) (hbase : base ≤ w.heap.size)
    (h : ∀ v' w', OwnO w' base v' (xs ++ ys) → w.grownBy w' v.ownBlock → Chg (fun k => base ≤ k) w w' → K (a.put o.dst v') w') :
    if Region.wanted o (yielded ops a.tmps) = true then Oper.wp Tryz.prog o a w K Q else E := by
  have hw : Region.wanted o (yielded ops a.tmps) = true := by simp [Region.wanted, hgd]
  rw [if_pos hw]
  obtain ⟨i0, hi, hz0, hz1, hz2⟩ := info_parts infoOp
  obtain ⟨⟨hl, A, c, rfl, hlc, hcm, hr, hnn⟩, hok⟩ := hsrc
  have hok' : ∀ y ∈ xs ++ ys, y.ok := fun y hy => (List.mem_append.1 hy).elim (hown.2 y) (hok y)
  cases A with
  | none =>
    have hy : ys = [] := by
      rcases Nat.eq_zero_or_pos ys.length with h0 | h0
      · exact List.eq_nil_of_length_eq_zero h0
      · obtain ⟨b, oo, h1, _⟩ := hr h0
        cases h1
    subst hy
    obtain rfl := hnn rfl
    have hrun := run_append_owned_none (P := Tryz.prog) (w := w) base 41 o.type 66 i0 8 Tryz.underlying41 hi v xs.length _ hown.1
    have hK := h v w (by simpa using hown) (World.grownBy.refl w _) (Chg.refl _ _)
    unfold Oper.wp
    simp [execOp, ho, resolve, invoke, builtin, hs, hx, hrun, Result.andThen]
    exact hK
  | some ad =>
    have hnews : ∀ j q, (ys.flatMap OpM.cells)[j]? = some q → w.cell? (ad.add j) = some q := by
      intro j q hq
      obtain ⟨hj, he⟩ := List.getElem?_eq_some_iff.1 hq
      have hp : 0 < ys.length := by
        rcases Nat.eq_zero_or_pos ys.length with h0 | h0
        · rw [List.eq_nil_of_length_eq_zero h0] at hj; simp at hj
        · exact h0
      obtain ⟨b, oo, h1, _, _, hc⟩ := hr hp
      injection h1 with h1
      subst h1
      have := (hc j hj).1
      rw [he] at this
      rw [← this]
      unfold Addr.add
      by_cases h0 : j = 0 <;> simp [h0]
    refine wp_append_own (P := Tryz.prog) w s x 41 ho base 66 i0 _ 8 64 Tryz.underlying41 hi hz0 hz1 hz2 rfl (by decide) v xs.length _ hs hown.1 ad ys.length c (ys.flatMap OpM.cells) hx hl hnews ?_ ?_ ?_ hbase ?_
    · intro q hq
      obtain ⟨y, _, hy⟩ := List.mem_flatMap.1 hq
      exact cells_one y q hy
    · unfold Go.maxLen; omega
    · omega
    · intro v' w' h2 h3 _
      exact h v' w' ⟨by simpa using h2, hok'⟩ h3 ((Chg.refl _ _).grown h3 fun k hk => .inl (hown.1.lt k hk).1)
end Go.Proofs.YtnjfhpgmogopnaaGreat
namespace Go.Proofs.YtnjfhpgmogopnaaGreat
open Go.ChangeShapes Go.WideShapes Go.ChangeAt Go.RowKit
theorem Ints.lit {w : World} {g : Nat} {arr : Array Value} {e : TypeId} {xs : List Int} (hh : w.heap[g]? = some (.cells arr e (0, 0))) (ha : arr.toList = xs.map (Value.int .i64)) (hx : ∀ x ∈ xs, I64 x) (hl : xs.length ≤ 1000) :
    Ints w (fun b => b = g) (.slice (some ⟨g, 0, none⟩) xs.length xs.length) xs := by
  refine Ints.of_cells rfl (Array.getElem?_eq_some_iff.1 hh).1 (Nat.le_refl _) (by omega) hx fun t ht => ?_
  have h1 := cell_of_row w g t arr e (0, 0) hh
  refine ⟨?_, by simp [World.frozen?, hh]⟩
  rw [h1, ← Array.getElem?_toList, ha, List.getElem?_map, List.getElem?_eq_getElem ht]
  rfl
theorem sAbs_any (k : Int) (w : World) (h : -1000000 ≤ k ∧ k ≤ 1000000) :
    Calls Tryz.prog 98 #[.int .i64 k] w fun e w' => e = .returned (.int .i64 (absI k)) ∧ w = w' := by
  obtain ⟨h0, h1⟩ := h
  by_cases hk : k < 0
  · have HV := Lib.hid (show absI k = -k from if_pos hk)
    go_enter Tryz.func98, Tryz.ntmps98
    go_wp2
    go_ret
    exact ⟨ret_int HV.out.symm, rfl⟩
  · have HV := Lib.hid (show absI k = k from if_neg hk)
    go_enter Tryz.func98, Tryz.ntmps98
    go_wp2
    go_ret
    exact ⟨ret_int HV.out.symm, rfl⟩
theorem size_any (k : Int) (w : World) (h : -1000000 ≤ k ∧ k ≤ 1000000) :
    Calls Tryz.prog 145 #[.int .i64 k] w fun e w' => e = .returned (.int .i64 (absI k)) ∧ w = w' := by
  obtain ⟨h0, h1⟩ := h
  by_cases hk : k < 0
  · have HV := Lib.hid (show absI k = -k from if_pos hk)
    go_enter Tryz.func145, Tryz.ntmps145
    go_wp2
    go_ret
    exact ⟨ret_int (by rw [HV.out]; first | done | omega), rfl⟩
  · have HV := Lib.hid (show absI k = k from if_neg hk)
    go_enter Tryz.func145, Tryz.ntmps145
    go_wp2
    go_ret
    exact ⟨ret_int (by rw [HV.out]; first | done | omega), rfl⟩
theorem letAt_8 (c : Int) : letAt 8 c = [c + 1] := rfl
theorem letAt_9 (c : Int) : letAt 9 c = [-c - 1] := rfl
theorem letAt_5 (c : Int) : letAt 5 c = [-c - 1] := rfl
theorem letAt_10 (c : Int) : letAt 10 c = [c + 2, c + 1, c + 3, c + 2] := rfl
theorem letAt_11 (c : Int) : letAt 11 c = [-c - 2, -c - 1, -c - 3, -c - 2] := rfl
theorem letAt_no {k c : Int} (h : ¬ k = 8 ∧ ¬ k = 9 ∧ ¬ k = 5 ∧ ¬ k = 10 ∧ ¬ k = 11) : letAt k c = [] := by
  unfold letAt
  rw [if_neg h.1, if_neg (fun hh => hh.elim h.2.1 h.2.2.1), if_neg h.2.2.2.1, if_neg h.2.2.2.2]
set_option maxHeartbeats 4000000 in
theorem l18Stitch_any (w : World) (k c : Int) (hc : 0 ≤ c ∧ c ≤ 1000) :
    Calls Tryz.prog 129 #[.int .i64 k, .int .i64 c] w fun e w' => ∃ v, e = .returned v ∧ Ints w' (New w.heap.size w'.heap.size) v (letAt k c) ∧ Up w w' := by
  obtain ⟨hc0, hc1⟩ := hc
  have hsh : k = 8 ∨ k = 9 ∨ k = 5 ∨ k = 10 ∨ k = 11 ∨ (¬ k = 8 ∧ ¬ k = 9 ∧ ¬ k = 5 ∧ ¬ k = 10 ∧ ¬ k = 11) := by omega
  rcases hsh with rfl | rfl | rfl | rfl | rfl | h
  · have HX := Lib.hid (letAt_8 c)
    go_enter Tryz.func129, Tryz.ntmps129
    go_wp2
    go_ret
    refine ⟨_, rfl, ?_, (Chg.refl _ _).alloc _⟩
    rw [HX.out]
    exact (Ints.lit (xs := [c + 1]) (heap_new_at rfl) rfl (by intro x hx; simp at hx; unfold I64; omega) (by simp)).mono (fun b _ hb => by subst hb; exact ⟨Nat.le_refl _, by simp⟩)
  · have HX := Lib.hid (letAt_9 c)
    go_enter Tryz.func129, Tryz.ntmps129
    go_wp2
    go_ret
    refine ⟨_, rfl, ?_, (Chg.refl _ _).alloc _⟩
    rw [HX.out]
    exact (Ints.lit (xs := [-c - 1]) (heap_new_at rfl) rfl (by intro x hx; simp at hx; unfold I64; omega) (by simp)).mono (fun b _ hb => by subst hb; exact ⟨Nat.le_refl _, by simp⟩)
  · have HX := Lib.hid (letAt_5 c)
    go_enter Tryz.func129, Tryz.ntmps129
    go_wp2
    go_ret
    refine ⟨_, rfl, ?_, (Chg.refl _ _).alloc _⟩
    rw [HX.out]
    exact (Ints.lit (xs := [-c - 1]) (heap_new_at rfl) rfl (by intro x hx; simp at hx; unfold I64; omega) (by simp)).mono (fun b _ hb => by subst hb; exact ⟨Nat.le_refl _, by simp⟩)
  · have HX := Lib.hid (letAt_10 c)
    go_enter Tryz.func129, Tryz.ntmps129
    go_wp2
    go_ret
    refine ⟨_, rfl, ?_, (Chg.refl _ _).alloc _⟩
    rw [HX.out]
    exact (Ints.lit (xs := [c + 2, c + 1, c + 3, c + 2]) (heap_new_at rfl) rfl (by intro x hx; simp at hx; unfold I64; omega) (by simp)).mono (fun b _ hb => by subst hb; exact ⟨Nat.le_refl _, by simp⟩)
  · have HX := Lib.hid (letAt_11 c)
    go_enter Tryz.func129, Tryz.ntmps129
    go_wp2
    go_ret
    refine ⟨_, rfl, ?_, (Chg.refl _ _).alloc _⟩
    rw [HX.out]
    exact (Ints.lit (xs := [-c - 2, -c - 1, -c - 3, -c - 2]) (heap_new_at rfl) rfl (by intro x hx; simp at hx; unfold I64; omega) (by simp)).mono (fun b _ hb => by subst hb; exact ⟨Nat.le_refl _, by simp⟩)
  · have HX := Lib.hid (letAt_no (c := c) h)
    obtain ⟨h1, h2, h3, h4, h5⟩ := h
    have e1 : (k == 8) = false := by simpa using h1
    have e2 : (k == 9) = false := by simpa using h2
    have e3 : (k == 5) = false := by simpa using h3
    have e4 : (k == 10) = false := by simpa using h4
    have e5 : (k == 11) = false := by simpa using h5
    clear h1 h2 h3 h4 h5
    go_enter Tryz.func129, Tryz.ntmps129
    go_wp2
    go_ret
    refine ⟨_, rfl, ?_, Chg.refl _ _⟩
    rw [HX.out]
    exact Ints.nil _ _ _ _ (by omega)
set_option maxHeartbeats 4000000 in
theorem l18Letters_any (w : World) (S : Nat → Prop) (b o : Nat) (r : RowM) (h : RowAt w S b o r) (hs : stB r.xs = true) :
    Calls Tryz.prog 96 #[.pointer (some ⟨b, o, none⟩)] w fun e w' => ∃ v, e = .returned v ∧ Ints w' (New w.heap.size w'.heap.size) v (letL 0 r.xs) ∧ Up w w' := by
  obtain ⟨A, c, -, -, f2, h4, h5, h6⟩ := h.open_
  have HI := Lib.hid h4
  have hl := stB_len hs
  have HK := Lib.hid (stB_kind hs)
  obtain ⟨_, _, _, _, _, _, _, _, _, hbw⟩ := h
  clear h4 hs
  go_enter Tryz.func96, Tryz.ntmps96
  go_wp2
  go_loopw [3, 4, 5] (fun v a i wr => ∃ j : Nat, j ≤ r.xs.length ∧ i = .int .i64 j ∧ a = .int .i64 (sumF takenK (r.xs.take j)) ∧ Hid (OwnI wr w.heap.size v (letL 0 (r.xs.take j))) ∧ Hid (Up w wr)) (fun _ _ i _ => r.xs.length - (intOf i).toNat)
  case atStart => exact ⟨0, by omega, rfl, rfl, OwnI.made w _ (Nat.le_refl _), (Chg.refl _ _).alloc _⟩
  case round =>
    obtain ⟨j, hj, rfl, rfl, ho, hg⟩ := hrel
    have g2 := Chg.cell hg.out f2 id
    by_cases hlt : j < r.xs.length
    · obtain ⟨b1, o1, rfl, -, hc⟩ := HI.out.ix hlt
      have f1 := Chg.cell hg.out (hc j hlt) id
      rw [ix_eq hlt] at f1
      have HC := Lib.hid (show w.cell? ⟨b1, o1 + j, none⟩ = some (.int .i64 r.xs[j]) by have := hc j hlt; rwa [ix_eq hlt] at this)
      have HT := Lib.hid (sumF_take takenK hlt)
      have HX := Lib.hid (letL_take hlt)
      have HV := Lib.hid (takenOf_ok (HK.out _ (List.getElem_mem hlt)))
      have hll := letL_length (r.xs.take j) 0
      have hl4 := letAt_length r.xs[j] (sumF takenK (r.xs.take j))
      rw [List.length_take] at hll
      have HLL := Lib.hid (show (letL 0 (r.xs.take j)).length + (letAt r.xs[j] (sumF takenK (r.xs.take j))).length ≤ 1099511627776 by omega)
      have hb1 := takenK_bd r.xs[j]
      have hb2 := sumF_bd takenK 0 4 (by omega) (fun x => by have := takenK_bd x; omega) (r.xs.take j)
      rw [List.length_take, Nat.min_eq_left hj] at hb2
      have hsz := hg.out.size
      have hub : b1 < w.heap.size := World.block_lt_of_cell? w _ HC.out
      generalize hsv : sumF takenK (r.xs.take j) = sv at *
      have HSV := Lib.hid hsv
      clear hc hll hl4 hsv
      have G_1 := Lib.hid (Chg.refl Nowhere wr)
      have O_2 := Lib.hid (ho.out)
      go_wp2_with fail
      refine (l18Stitch_any _ _ _ ⟨by omega, by omega⟩).mono ?_
      rintro e w3 ⟨v3, rfl, k1, g1⟩
      obtain ⟨A3, c3, rfl, hl3, hc3, -⟩ := k1.shape
      have K1 := Lib.hid k1
      clear k1
      have G1 := Lib.hid g1
      obtain ⟨hy3, hz3⟩ := up_pre (show Up wr _ from (by repeat (first | exact Chg.refl _ _ | apply Chg.drew | apply Chg.drewN | refine Chg.alloc ?_ _))) G1.out
      clear g1
      have U_4 := Lib.hid (Chg.trans hg.out (Chg.trans (by repeat (first | exact Chg.refl _ _ | apply Chg.drew | apply Chg.drewN | refine Chg.alloc ?_ _)) G1.out))
      clear hg
      have G_5 := Lib.hid (Chg.trans G_1.out (Chg.trans (by repeat (first | exact Chg.refl _ _ | apply Chg.drew | apply Chg.drewN | refine Chg.alloc ?_ _)) G1.out))
      clear G_1
      have O_6 := Lib.hid (O_2.out.up (Chg.trans (by repeat (first | exact Chg.refl _ _ | apply Chg.drew | apply Chg.drewN | refine Chg.alloc ?_ _)) G1.out))
      clear O_2
      have f1_7 := Chg.cell (Chg.trans (by repeat (first | exact Chg.refl _ _ | apply Chg.drew | apply Chg.drewN | refine Chg.alloc ?_ _)) G1.out) f1 id
      clear f1
      have g2_8 := Chg.cell (Chg.trans (by repeat (first | exact Chg.refl _ _ | apply Chg.drew | apply Chg.drewN | refine Chg.alloc ?_ _)) G1.out) g2 id
      clear g2
      clear G1
      have K_9 := Lib.hid (K1.out)
      clear K1
      go_wp2_with (first | (at_builtin; refine wp_append_ints rfl _ _ rfl w.heap.size _ (letL 0 (r.xs.take j)) rfl (O_6.out.up (by repeat (first | exact Chg.refl _ _ | apply Chg.drew | apply Chg.drewN | refine Chg.alloc ?_ _))) _ _ (letAt r.xs[j] sv) rfl (K_9.out.up (by repeat (first | exact Chg.refl _ _ | apply Chg.drew | apply Chg.drewN | refine Chg.alloc ?_ _))) HLL.out (by omega) ?_; intro v' w9 ho1 _ _ hg1; have HO := Lib.hid ho1; have HG := Lib.hid (Chg.new (Chg.trans U_4.out (by repeat (first | exact Chg.refl _ _ | apply Chg.drew | apply Chg.drewN | refine Chg.alloc ?_ _))) hg1 (fun i hi => by omega)); have f8 := Chg.cell HG.out HC.out id; have f9 := Chg.cell HG.out f2 id; clear ho1 hg1))
      refine (sColumnsTaken_any _ _).mono ?_
      rintro e w10 ⟨rfl, g1⟩
      rw [HV.out]
      have G1 := Lib.hid g1
      clear g1 f8 f9
      go_wp2
      go_roundw
      case rel => exact ⟨j + 1, by omega, by go_num, by rw [HT.out], by rw [HX.out]; exact HO.out.up G1.out, Chg.trans HG.out G1.out⟩
      case measure => simp [intOf]; omega
    · obtain rfl : j = r.xs.length := by omega
      have HX := Lib.hid (show letL 0 (r.xs.take r.xs.length) = letL 0 r.xs by rw [List.take_length])
      go_wp2
      go_ret
      exact ⟨_, rfl, by have := ho.out.ints; rw [HX.out] at this; exact this, hg.out⟩
set_option maxHeartbeats 8000000 in
theorem letters_any (w : World) (S : Nat → Prop) (v : Value) (r : RowM) (h : RowV w S v r) (hs : stB r.xs = true) :
    Calls Tryz.prog 119 #[v] w fun e w' => ∃ v, e = .returned v ∧ Ints w' (New w.heap.size w'.heap.size) v (letL 0 r.xs) ∧ Up w w' := by
  obtain ⟨A, c, rfl, h4, h5, h6⟩ := openRow h
  have HI := Lib.hid h4
  have hl := stB_len hs
  have HK := Lib.hid (stB_kind hs)
  have HW := Lib.hid ((Chg.refl Nowhere w).alloc (.cells #[.int .i64 r.d, .int .i64 r.c, .slice A r.xs.length c] 72))
  have HM := Lib.hid (OwnI.made (w.alloc (.cells #[.int .i64 r.d, .int .i64 r.c, .slice A r.xs.length c] 72)) (w.heap.size + 1) (by simp))
  clear h h4 hs
  go_enter Tryz.func119, Tryz.ntmps119
  go_wp2
  go_loopw [3, 4, 6, 11] (fun v a _ i wr => ∃ j : Nat, j ≤ r.xs.length ∧ i = .int .i64 j ∧ a = .int .i64 (sumF takenK (r.xs.take j)) ∧ Hid (OwnI wr (w.heap.size + 1) v (letL 0 (r.xs.take j))) ∧ Hid (Up (w.alloc (.cells #[.int .i64 r.d, .int .i64 r.c, .slice A r.xs.length c] 72)) wr)) (fun _ _ _ i _ => r.xs.length - (intOf i).toNat)
  case atStart => exact ⟨0, by omega, rfl, rfl, by simpa [Hid, letL] using HM.out, (Chg.refl _ _).alloc _⟩
  clear HM
  case round =>
    obtain ⟨j, hj, rfl, rfl, ho, hg⟩ := hrel
    by_cases hlt : j < r.xs.length
    · obtain ⟨b1, o1, rfl, -, hc⟩ := HI.out.ix hlt
      have f1 := Chg.cell (HW.out.trans hg.out) (hc j hlt) id
      rw [ix_eq hlt] at f1
      have HT := Lib.hid (sumF_take takenK hlt)
      have HX := Lib.hid (letL_take hlt)
      have HV := Lib.hid (takenOf_ok (HK.out _ (List.getElem_mem hlt)))
      have hll := letL_length (r.xs.take j) 0
      rw [List.length_take] at hll
      have hb1 := takenK_bd r.xs[j]
      have hb2 := sumF_bd takenK 0 4 (by omega) (fun x => by have := takenK_bd x; omega) (r.xs.take j)
      rw [List.length_take, Nat.min_eq_left hj] at hb2
      have hsz : w.heap.size + 1 ≤ wr.heap.size := by have := hg.out.size; simp at this; exact this
      generalize hsv : sumF takenK (r.xs.take j) = sv at *
      clear hc hsv
      generalize hx : r.xs[j] = x at *
      have HXX := Lib.hid hx
      have hsh : x = 8 ∨ x = 9 ∨ x = 5 ∨ x = 10 ∨ x = 11 ∨ (¬ x = 8 ∧ ¬ x = 9 ∧ ¬ x = 5 ∧ ¬ x = 10 ∧ ¬ x = 11) := by omega
      clear hx
      have hxeq : ∃ y : Int, y = x := ⟨x, rfl⟩
      obtain ⟨y, hy⟩ := hxeq
      rcases hsh with h | h | h | h | h | h
      · rw [h] at HX f1 HT hb1
        have HV := Lib.hid (show takenOf 8 = takenK 8 by have := HV.out; rwa [h] at this)
        have HE := Lib.hid (letAt_8 sv)
        have HLL := Lib.hid (show (letL 0 (r.xs.take j)).length + ([sv + 1]).length ≤ 1099511627776 by simp; omega)
        have HL := Lib.hid (show ∀ (W : World) (arr : Array Value) (e : TypeId) (g : Nat), W.heap[g]? = some (.cells arr e (0, 0)) → arr.toList = ([sv + 1]).map (Value.int .i64) → Ints W (fun b => b = g) (.slice (some ⟨g, 0, none⟩) ([sv + 1]).length ([sv + 1]).length) ([sv + 1]) from fun W arr e g h1 h2 => Ints.lit h1 h2 (by intro x hx; simp at hx; unfold I64; omega) (by simp))
        clear h hy
        go_wp2_with (first | (at_builtin; refine wp_append_ints rfl _ _ rfl (w.heap.size + 1) _ (letL 0 (r.xs.take j)) rfl (ho.out.alloc _) _ _ ([sv + 1]) rfl (HL.out _ _ _ _ (heap_new_at rfl) rfl) HLL.out (by simp; omega) ?_; intro v' w9 ho1 _ _ hg1; have HO := Lib.hid ho1; have HG := Lib.hid (Chg.new (hg.out.alloc _) hg1 (fun i hi => by simp at hi; omega)); clear ho1 hg1))
        refine (ColumnsTaken_any _ _).mono ?_
        rintro e w10 ⟨rfl, rfl⟩
        rw [HV.out]
        go_wp2
        go_roundw
        case rel => exact ⟨j + 1, by omega, by go_num, by rw [HT.out], by rw [HX.out, HE.out]; exact HO.out, HG.out⟩
        case measure => simp [intOf]; omega
      · rw [h] at HX f1 HT hb1
        have HV := Lib.hid (show takenOf 9 = takenK 9 by have := HV.out; rwa [h] at this)
        have HE := Lib.hid (letAt_9 sv)
        have HLL := Lib.hid (show (letL 0 (r.xs.take j)).length + ([-sv - 1]).length ≤ 1099511627776 by simp; omega)
        have HL := Lib.hid (show ∀ (W : World) (arr : Array Value) (e : TypeId) (g : Nat), W.heap[g]? = some (.cells arr e (0, 0)) → arr.toList = ([-sv - 1]).map (Value.int .i64) → Ints W (fun b => b = g) (.slice (some ⟨g, 0, none⟩) ([-sv - 1]).length ([-sv - 1]).length) ([-sv - 1]) from fun W arr e g h1 h2 => Ints.lit h1 h2 (by intro x hx; simp at hx; unfold I64; omega) (by simp))
        clear h hy
        go_wp2_with (first | (at_builtin; refine wp_append_ints rfl _ _ rfl (w.heap.size + 1) _ (letL 0 (r.xs.take j)) rfl (ho.out.alloc _) _ _ ([-sv - 1]) rfl (HL.out _ _ _ _ (heap_new_at rfl) rfl) HLL.out (by simp; omega) ?_; intro v' w9 ho1 _ _ hg1; have HO := Lib.hid ho1; have HG := Lib.hid (Chg.new (hg.out.alloc _) hg1 (fun i hi => by simp at hi; omega)); clear ho1 hg1))
        refine (ColumnsTaken_any _ _).mono ?_
        rintro e w10 ⟨rfl, rfl⟩
        rw [HV.out]
        go_wp2
        go_roundw
        case rel => exact ⟨j + 1, by omega, by go_num, by rw [HT.out], by rw [HX.out, HE.out]; exact HO.out, HG.out⟩
        case measure => simp [intOf]; omega
      · rw [h] at HX f1 HT hb1
        have HV := Lib.hid (show takenOf 5 = takenK 5 by have := HV.out; rwa [h] at this)
        have HE := Lib.hid (letAt_5 sv)
        have HLL := Lib.hid (show (letL 0 (r.xs.take j)).length + ([-sv - 1]).length ≤ 1099511627776 by simp; omega)
        have HL := Lib.hid (show ∀ (W : World) (arr : Array Value) (e : TypeId) (g : Nat), W.heap[g]? = some (.cells arr e (0, 0)) → arr.toList = ([-sv - 1]).map (Value.int .i64) → Ints W (fun b => b = g) (.slice (some ⟨g, 0, none⟩) ([-sv - 1]).length ([-sv - 1]).length) ([-sv - 1]) from fun W arr e g h1 h2 => Ints.lit h1 h2 (by intro x hx; simp at hx; unfold I64; omega) (by simp))
        clear h hy
        go_wp2_with (first | (at_builtin; refine wp_append_ints rfl _ _ rfl (w.heap.size + 1) _ (letL 0 (r.xs.take j)) rfl (ho.out.alloc _) _ _ ([-sv - 1]) rfl (HL.out _ _ _ _ (heap_new_at rfl) rfl) HLL.out (by simp; omega) ?_; intro v' w9 ho1 _ _ hg1; have HO := Lib.hid ho1; have HG := Lib.hid (Chg.new (hg.out.alloc _) hg1 (fun i hi => by simp at hi; omega)); clear ho1 hg1))
        refine (ColumnsTaken_any _ _).mono ?_
        rintro e w10 ⟨rfl, rfl⟩
        rw [HV.out]
        go_wp2
        go_roundw
        case rel => exact ⟨j + 1, by omega, by go_num, by rw [HT.out], by rw [HX.out, HE.out]; exact HO.out, HG.out⟩
        case measure => simp [intOf]; omega
      · rw [h] at HX f1 HT hb1
        have HV := Lib.hid (show takenOf 10 = takenK 10 by have := HV.out; rwa [h] at this)
        have HE := Lib.hid (letAt_10 sv)
        have HLL := Lib.hid (show (letL 0 (r.xs.take j)).length + ([sv + 2, sv + 1, sv + 3, sv + 2]).length ≤ 1099511627776 by simp; omega)
        have HL := Lib.hid (show ∀ (W : World) (arr : Array Value) (e : TypeId) (g : Nat), W.heap[g]? = some (.cells arr e (0, 0)) → arr.toList = ([sv + 2, sv + 1, sv + 3, sv + 2]).map (Value.int .i64) → Ints W (fun b => b = g) (.slice (some ⟨g, 0, none⟩) ([sv + 2, sv + 1, sv + 3, sv + 2]).length ([sv + 2, sv + 1, sv + 3, sv + 2]).length) ([sv + 2, sv + 1, sv + 3, sv + 2]) from fun W arr e g h1 h2 => Ints.lit h1 h2 (by intro x hx; simp at hx; unfold I64; omega) (by simp))
        clear h hy
        go_wp2_with (first | (at_builtin; refine wp_append_ints rfl _ _ rfl (w.heap.size + 1) _ (letL 0 (r.xs.take j)) rfl (ho.out.alloc _) _ _ ([sv + 2, sv + 1, sv + 3, sv + 2]) rfl (HL.out _ _ _ _ (heap_new_at rfl) rfl) HLL.out (by simp; omega) ?_; intro v' w9 ho1 _ _ hg1; have HO := Lib.hid ho1; have HG := Lib.hid (Chg.new (hg.out.alloc _) hg1 (fun i hi => by simp at hi; omega)); clear ho1 hg1))
        refine (ColumnsTaken_any _ _).mono ?_
        rintro e w10 ⟨rfl, rfl⟩
        rw [HV.out]
        go_wp2
        go_roundw
        case rel => exact ⟨j + 1, by omega, by go_num, by rw [HT.out], by rw [HX.out, HE.out]; exact HO.out, HG.out⟩
        case measure => simp [intOf]; omega
      · rw [h] at HX f1 HT hb1
        have HV := Lib.hid (show takenOf 11 = takenK 11 by have := HV.out; rwa [h] at this)
        have HE := Lib.hid (letAt_11 sv)
        have HLL := Lib.hid (show (letL 0 (r.xs.take j)).length + ([-sv - 2, -sv - 1, -sv - 3, -sv - 2]).length ≤ 1099511627776 by simp; omega)
        have HL := Lib.hid (show ∀ (W : World) (arr : Array Value) (e : TypeId) (g : Nat), W.heap[g]? = some (.cells arr e (0, 0)) → arr.toList = ([-sv - 2, -sv - 1, -sv - 3, -sv - 2]).map (Value.int .i64) → Ints W (fun b => b = g) (.slice (some ⟨g, 0, none⟩) ([-sv - 2, -sv - 1, -sv - 3, -sv - 2]).length ([-sv - 2, -sv - 1, -sv - 3, -sv - 2]).length) ([-sv - 2, -sv - 1, -sv - 3, -sv - 2]) from fun W arr e g h1 h2 => Ints.lit h1 h2 (by intro x hx; simp at hx; unfold I64; omega) (by simp))
        clear h hy
        go_wp2_with (first | (at_builtin; refine wp_append_ints rfl _ _ rfl (w.heap.size + 1) _ (letL 0 (r.xs.take j)) rfl (ho.out.alloc _) _ _ ([-sv - 2, -sv - 1, -sv - 3, -sv - 2]) rfl (HL.out _ _ _ _ (heap_new_at rfl) rfl) HLL.out (by simp; omega) ?_; intro v' w9 ho1 _ _ hg1; have HO := Lib.hid ho1; have HG := Lib.hid (Chg.new (hg.out.alloc _) hg1 (fun i hi => by simp at hi; omega)); clear ho1 hg1))
        refine (ColumnsTaken_any _ _).mono ?_
        rintro e w10 ⟨rfl, rfl⟩
        rw [HV.out]
        go_wp2
        go_roundw
        case rel => exact ⟨j + 1, by omega, by go_num, by rw [HT.out], by rw [HX.out, HE.out]; exact HO.out, HG.out⟩
        case measure => simp [intOf]; omega
      · have HE := Lib.hid (letAt_no (c := sv) h)
        obtain ⟨h1, h2, h3, h4, h5⟩ := h
        have e1 : (x == 8) = false := by simpa using h1
        have e2 : (x == 9) = false := by simpa using h2
        have e3 : (x == 5) = false := by simpa using h3
        have e4 : (x == 10) = false := by simpa using h4
        have e5 : (x == 11) = false := by simpa using h5
        clear h1 h2 h3 h4 h5 hy
        go_wp2_with fail
        refine (ColumnsTaken_any _ _).mono ?_
        rintro e w10 ⟨rfl, rfl⟩
        rw [HV.out]
        go_wp2
        go_roundw
        case rel => exact ⟨j + 1, by omega, by go_num, by rw [HT.out], by rw [HX.out, HE.out, List.append_nil]; exact ho, hg⟩
        case measure => simp [intOf]; omega
    · obtain rfl : j = r.xs.length := by omega
      have HX := Lib.hid (show letL 0 (r.xs.take r.xs.length) = letL 0 r.xs by rw [List.take_length])
      go_wp2
      go_ret
      exact ⟨_, rfl, by have := ho.out.ints; rw [HX.out] at this; exact this.mono (fun b _ hb => ⟨by have := hb.1; omega, hb.2⟩), HW.out.trans hg.out⟩
end Go.Proofs.YtnjfhpgmogopnaaGreat
namespace Go.Proofs.YtnjfhpgmogopnaaGreat
open Go.ChangeShapes Go.WideShapes Go.ChangeAt Go.RowKit
def isMoveP (f t : Int) : Prop := (0 ≤ f ∧ f ≤ 23) ∧ (0 ≤ t ∧ t ≤ 23) ∧ f ≠ t ∧ (-3 ≤ t - f ∧ t - f ≤ 3)
instance (f t : Int) : Decidable (isMoveP f t) := inferInstanceAs (Decidable (_ ∧ _))
theorem move_cases (f t : Int) : (f < 0 ∨ 23 < f) ∨ ((0 ≤ f ∧ f ≤ 23) ∧ (t < 0 ∨ 23 < t)) ∨ ((0 ≤ f ∧ f ≤ 23) ∧ (0 ≤ t ∧ t ≤ 23) ∧ f = t) ∨
    ((0 ≤ f ∧ f ≤ 23) ∧ (0 ≤ t ∧ t ≤ 23) ∧ f ≠ t ∧ (t - f < -3 ∨ 3 < t - f)) ∨ ((0 ≤ f ∧ f ≤ 23) ∧ (0 ≤ t ∧ t ≤ 23) ∧ f ≠ t ∧ (-3 ≤ t - f ∧ t - f ≤ 3)) := by omega
end Go.Proofs.YtnjfhpgmogopnaaGreat
namespace Go.Proofs.YtnjfhpgmogopnaaGreat
open Go.ChangeShapes Go.WideShapes Go.ChangeAt Go.RowKit
/-- in the middle of copying: all cells of the row are there; the first ones bear what they should -/
def Copying (w : World) (b m n j : Nat) (cs : List Value) : Prop :=
  ∀ t, t < n * m → (∃ u, w.cell? ⟨b, t, none⟩ = some u) ∧ w.frozen? ⟨b, t, none⟩ = false ∧ (t < j * m → w.cell? ⟨b, t, none⟩ = cs[t]?)
theorem Copying.cell {w : World} {b m n j : Nat} {cs : List Value} (h : Copying w b m n j cs) (hj : j < n) (i : Nat) (hi : i < m) :
    ∃ u, w.cell? ⟨b, j * m + i, none⟩ = some u ∧ w.frozen? ⟨b, j * m + i, none⟩ = false := by
  have hlt : j * m + i < n * m := by
    have : (j + 1) * m ≤ n * m := Nat.mul_le_mul_right m hj
    rw [Nat.add_mul] at this
    omega
  obtain ⟨⟨u, h1⟩, h2, _⟩ := h (j * m + i) hlt
  exact ⟨u, h1, h2⟩
theorem Copying.next {w : World} {b m n j : Nat} {cs : List Value} (h : Copying w b m n j cs) (hj : j < n) {vs : List Value} (hl : vs.length = m) (hv : ∀ i (hi : i < vs.length), cs[j * m + i]? = some vs[i]) :
    Copying (w.setCells b (j * m) vs) b m n (j + 1) cs := by
  intro t ht
  have hfr := (h t ht).2.1
  refine ⟨?_, by rw [World.frozen?_setCells]; exact hfr, fun hlt => ?_⟩
  · by_cases hin : j * m ≤ t ∧ t < (j + 1) * m
    · rw [Nat.add_mul] at hin
      have := World.cell?_setCells_in b vs (j * m) w (fun i hi => by
        obtain ⟨u, hu, _⟩ := h.cell hj i (by omega)
        simp [hu]) (t - j * m) (by omega)
      rw [show j * m + (t - j * m) = t by omega] at this
      exact ⟨_, this⟩
    · rw [Nat.add_mul] at hin
      rw [World.cell?_setCells_out b vs _ w _ (fun _ _ => by simp only []; omega)]
      exact (h t ht).1
  · by_cases hin : j * m ≤ t
    · rw [Nat.add_mul] at hlt
      have := World.cell?_setCells_in b vs (j * m) w (fun i hi => by
        obtain ⟨u, hu, _⟩ := h.cell hj i (by omega)
        simp [hu]) (t - j * m) (by omega)
      rw [show j * m + (t - j * m) = t by omega] at this
      rw [this]
      have h2 := hv (t - j * m) (by omega)
      rw [show j * m + (t - j * m) = t by omega] at h2
      rw [h2]
    · rw [World.cell?_setCells_out b vs _ w _ (fun _ _ => by simp only []; omega)]
      exact (h t ht).2.2 (by omega)
theorem Copying.up {w w' : World} {b m n j : Nat} {cs : List Value} (h : Copying w b m n j cs) (g : Up w w') : Copying w' b m n j cs := fun t ht => by
  obtain ⟨⟨u, h1⟩, h2, h3⟩ := h t ht
  have hb : b < w.heap.size := World.block_lt_of_cell? w _ h1
  have hc := g.cell h1 id
  refine ⟨⟨u, hc⟩, ?_, fun hlt => ?_⟩
  · have hk := g.block b hb id
    simpa [World.frozen?, hk] using h2
  · rw [hc, ← h1]; exact h3 hlt
theorem Chg.setCellsNew {S : Nat → Prop} {a : World} {b : Nat} (hb : a.heap.size ≤ b) : ∀ (vs : List Value) (o : Nat) {w : World}, Chg S a w → Chg S a (w.setCells b o vs)
  | [], _, _, h => h
  | v :: r, o, _, h => Chg.setCellsNew hb r (o + 1) (h.setCell (.inr hb) v)
theorem Copying.done {w : World} {S : Nat → Prop} {b m n : Nat} {cs : List Value} (h : Copying w b m n n cs) (hS : S b) (hb : b < w.heap.size) (hl : cs.length = n * m) (hm : n ≤ 9223372036854775807) :
    Raw w S m (.slice (some ⟨b, 0, none⟩) n n) n cs :=
  ⟨hl, _, n, rfl, Nat.le_refl _, hm, fun _ => ⟨b, 0, rfl, hS, hb, fun t ht => by
    rw [Nat.zero_add]
    have := h t (by omega)
    exact ⟨(this.2.2 (by omega)).trans (List.getElem?_eq_getElem ht), this.2.1⟩⟩, by simp⟩
theorem Copying.start (w : World) (m n : Nat) (cs : List Value) (arr : Array Value) (e : TypeId) (hz : arr.size = n * m) : Copying (w.alloc (.cells arr e)) w.heap.size m n 0 cs := fun t ht =>
  ⟨⟨arr[t]'(by omega), by rw [cell_new]; exact Array.getElem?_eq_getElem (by omega)⟩, frozen_new _ _ _ _, fun h0 => by omega⟩
end Go.Proofs.YtnjfhpgmogopnaaGreat
namespace Go.Proofs.YtnjfhpgmogopnaaGreat
open Go.ChangeShapes Go.WideShapes Go.ChangeAt Go.RowKit
set_option maxRecDepth 100000 in
/-- 'out = append(out, list...)': the source reads as a list of operations -/
theorem wp_append_ops2 {w : World} {ops : Array Oper} {rest : List Oper} {o : Oper} {a : Act} {Q : Exit → Act → World → Prop} (hgd : o.guard = none) (s x : Operand)
    (ho : o.op = .call { callee := .builtin .append, args := #[s, x], argTypes := #[41, 41] })
    (base : Nat) (v : Value) (xs : List OpM) (hs : a.eval s = v) (hown : OwnO w base v xs)
    (S : Nat → Prop) (u : Value) (ys : List OpM) (hx : a.eval x = u) (hsrc : Ops w S u ys) (hlen : xs.length + ys.length ≤ 1099511627776) (hbase : base ≤ w.heap.size)
    (h : ∀ v' w', OwnO w' base v' (xs ++ ys) → Chg (fun b => v.ownBlock = some b) w w' → (∀ b, v'.ownBlock = some b → v.ownBlock = some b ∨ w.heap.size ≤ b) → Chg (fun k => base ≤ k) w w' → wpList Tryz.prog ops Q rest (a.put o.dst v') w') : wpList Tryz.prog ops Q (o :: rest) a w := by
  obtain ⟨i0, hi, hz0, hz1, hz2⟩ := info_parts infoOp
  obtain ⟨⟨hl, A, c, rfl, hlc, hcm, hr, hnn⟩, hok⟩ := hsrc
  have hok' : ∀ y ∈ xs ++ ys, y.ok := fun y hy => (List.mem_append.1 hy).elim (hown.2 y) (hok y)
  cases A with
  | none =>
    have hy : ys = [] := by
      rcases Nat.eq_zero_or_pos ys.length with h0 | h0
      · exact List.eq_nil_of_length_eq_zero h0
      · obtain ⟨b, oo, h1, _⟩ := hr h0
        cases h1
    subst hy
    obtain rfl := hnn rfl
    refine wpList_append_own_none hgd s x 41 ho base 66 i0 8 Tryz.underlying41 hi v xs.length _ hs hown.1 hx ?_
    exact h v w (by simpa using hown) (Chg.refl _ _) (fun b hb => .inl hb) (Chg.refl _ _)
  | some ad =>
    have hnews : ∀ j q, (ys.flatMap OpM.cells)[j]? = some q → w.cell? (ad.add j) = some q := by
      intro j q hq
      obtain ⟨hj, he⟩ := List.getElem?_eq_some_iff.1 hq
      have hp : 0 < ys.length := by
        rcases Nat.eq_zero_or_pos ys.length with h0 | h0
        · rw [List.eq_nil_of_length_eq_zero h0] at hj; simp at hj
        · exact h0
      obtain ⟨b, oo, h1, _, _, hc⟩ := hr hp
      injection h1 with h1
      subst h1
      have := (hc j hj).1
      rw [he] at this
      rw [← this]
      unfold Addr.add
      by_cases h0 : j = 0 <;> simp [h0]
    refine wpList_append_own2 (P := Tryz.prog) hgd s x 41 ho base 66 i0 _ 8 64 Tryz.underlying41 hi hz0 hz1 hz2 rfl (by decide) v xs.length _ hs hown.1 ad ys.length c (ys.flatMap OpM.cells) hx hl hnews ?_ ?_ ?_ hbase ?_
    · intro q hq
      obtain ⟨y, _, hy⟩ := List.mem_flatMap.1 hq
      exact cells_one y q hy
    · unfold Go.maxLen; omega
    · omega
    · intro v' w' h2 h3 h4
      exact h v' w' ⟨by simpa using h2, hok'⟩ (Chg.of_grown h3) h4 ((Chg.refl _ _).grown h3 fun k hk => .inl (hown.1.lt k hk).1)
def crossL (first : Int) (ws : List Int) : List OpM := ws.flatMap fun k => crossM (first + 2 * (absI k - 1)) (decide (0 < k))
theorem crossL_len (first : Int) (ws : List Int) : (crossL first ws).length = 12 * ws.length := by
  induction ws with
  | nil => rfl
  | cons k ws ih => simp only [crossL, List.flatMap_cons, List.length_append, List.length_cons] at *; rw [ih, crossM_length]; omega
theorem crossL_take (first : Int) {ws : List Int} {j : Nat} (h : j < ws.length) : crossL first (ws.take (j + 1)) = crossL first (ws.take j) ++ crossM (first + 2 * (absI ws[j] - 1)) (decide (0 < ws[j])) := by
  unfold crossL
  rw [List.take_succ_eq_append_getElem h, List.flatMap_append]
  simp
def letOk (hi : Int) (ws : List Int) : Prop := ∀ k ∈ ws, 1 ≤ absI k ∧ absI k ≤ hi
theorem absI_le {k hi : Int} (h : absI k ≤ hi) : -hi ≤ k ∧ k ≤ hi := by unfold absI at h; split at h <;> omega
set_option maxRecDepth 100000 in
set_option maxHeartbeats 4000000 in
theorem crossOps_any (w : World) (S : Nat → Prop) (v : Value) (first : Int) (ws : List Int) (h : Ints w S v ws) (hf : 1 ≤ first ∧ first ≤ 100) (hw : letOk 100 ws) (hl : ws.length ≤ 1000) :
    Calls Tryz.prog 118 #[.int .i64 first, v] w fun e w' => ∃ v', e = .returned v' ∧ Ops w' (New w.heap.size w'.heap.size) v' (crossL first ws) ∧ Up w w' := by
  obtain ⟨A, c, rfl, hlc, hcm, -⟩ := h.shape
  have H := Lib.hid h
  have HW := Lib.hid hw
  obtain ⟨hf0, hf1⟩ := hf
  clear h hw
  go_enter Tryz.func118, Tryz.ntmps118
  go_wp2
  go_loopw [5, 7, 11] (fun v _ i wr => ∃ j : Nat, j ≤ ws.length ∧ i = .int .i64 j ∧ Hid (OwnO wr w.heap.size v (crossL first (ws.take j))) ∧ Hid (Up w wr)) (fun _ _ i _ => ws.length - (intOf i).toNat)
  case atStart => exact ⟨0, by omega, rfl, OwnO.made w _ (Nat.le_refl _), (Chg.refl _ _).alloc _⟩
  case round =>
    obtain ⟨j, hj, rfl, ho, hg⟩ := hrel
    by_cases hlt : j < ws.length
    · obtain ⟨b1, o1, rfl, -, hc⟩ := H.out.ix hlt
      have f1 := Chg.cell hg.out (hc j hlt) id
      rw [ix_eq hlt] at f1
      obtain ⟨ha0, ha1⟩ := HW.out _ (List.getElem_mem hlt)
      have hk := absI_le ha1
      have HT := Lib.hid (crossL_take first hlt)
      have HLL := Lib.hid (show (crossL first (ws.take j)).length + (crossM (first + 2 * (absI ws[j] - 1)) (decide (0 < ws[j]))).length ≤ 1099511627776 by rw [crossL_len, crossM_length, List.length_take]; omega)
      clear hc
      go_wp2_with fail
      refine (size_any _ _ ⟨by omega, by omega⟩).mono ?_
      rintro e w' ⟨rfl, rfl⟩
      go_wp2_with fail
      refine (crossColumns_any _ (first + 2 * (absI ws[j] - 1)) _ (by omega) (by omega)).mono ?_
      rintro e w2 ⟨v2, rfl, k2, g2⟩
      obtain ⟨A5, c5, rfl, hlc5, hcm5, -⟩ := k2.shape
      have HO1 := Lib.hid (OwnO.up (ho.out.up (by repeat (first | exact Chg.refl _ _ | apply Chg.drew | apply Chg.drewN | refine Chg.alloc ?_ _))) g2)
      have HG1 := Lib.hid (Chg.trans (Chg.trans hg.out (by repeat (first | exact Chg.refl _ _ | apply Chg.drew | apply Chg.drewN | refine Chg.alloc ?_ _))) g2)
      have HK1 := Lib.hid k2
      have hz2 := HG1.out.size
      clear ho hg k2 g2
      go_wp2_with (first | (at_builtin; refine wp_append_ops rfl _ _ rfl w.heap.size _ (crossL first (ws.take j)) rfl HO1.out _ _ (crossM (first + 2 * (absI ws[j] - 1)) (decide (0 < ws[j]))) rfl HK1.out HLL.out ?_ ?_; (first | omega | (simp; omega)); intro v' w3 ho1 _ hg1; have HO := Lib.hid ho1; have HG := Lib.hid (Chg.new HG1.out hg1 (fun i hi => by omega)); clear ho1 hg1 HO1 HG1 HK1))
      go_roundw
      case rel => exact ⟨j + 1, by omega, by go_num, by rw [HT.out]; exact HO.out, HG.out⟩
      case measure => simp [intOf]; omega
    · obtain rfl : j = ws.length := by omega
      have HX := Lib.hid (show ws.take ws.length = ws by rw [List.take_length])
      go_wp2
      go_ret
      exact ⟨_, rfl, by have := ho.out.ops; rw [HX.out] at this; exact this, hg.out⟩
theorem sCrossColumns_ok (w : World) (l : Int) (f : Bool) (h : 1 ≤ l ∧ l ≤ 20) :
    Calls Tryz.prog 97 #[.int .i64 l, .bool f] w fun e w' => ∃ v, e = .returned (.tuple #[v, .int .i64 0]) ∧ Ops w' (New w.heap.size w'.heap.size) v (crossM l f) ∧ Up w w' := by
  have HB := Lib.hid h
  go_enter Tryz.func97, Tryz.ntmps97
  go_wp2_with fail
  refine (l00In_yes _ _ _ _ HB.out).mono ?_
  rintro e w' ⟨rfl, rfl⟩
  go_wp2_with fail
  refine (l22Cross_any _ l f (by omega) (by omega)).mono ?_
  rintro e w1 ⟨v1, rfl, k1, g1⟩
  have K1 := Lib.hid k1
  have G1 := Lib.hid g1
  clear k1 g1
  go_wp2
  go_ret2
  exact ⟨_, rfl, K1.out, G1.out⟩
theorem needle_letter {k : Int} (h : 1 ≤ absI k ∧ absI k ≤ 7) : (1 ≤ 2 * (absI k - 1) + 1 ∧ 2 * (absI k - 1) + 1 ≤ 20) ∧ (0 ≤ absI k - 1 ∧ absI k - 1 ≤ 1000) := by omega
set_option maxRecDepth 100000 in
set_option maxHeartbeats 8000000 in
theorem l23Crossings_any (w : World) (S : Nat → Prop) (b o : Nat) (r : RowM) (h : RowAt w S b o r) (hr : rowCodeM r.d r.c r.xs = 0) :
    Calls Tryz.prog 67 #[.pointer (some ⟨b, o, none⟩)] w fun e w' => ∃ v, e = .returned (.tuple #[v, .int .i64 0]) ∧ Ops w' (New w.heap.size w'.heap.size) v (crossL 1 (letL 0 r.xs)) ∧ Up w w' := by
  have HR := Lib.hid h
  have HS := Lib.hid (laid_st_results hr)
  have HW := Lib.hid (show letOk 7 (letL 0 r.xs) from fun k hk => absI_bd ((laid_of hr).letters k hk))
  have hl := (laid_of hr).len
  have hll := letL_length r.xs 0
  have M0 := Lib.hid (OwnO.made w w.heap.size (Nat.le_refl _))
  clear h hr
  go_enter Tryz.func67, Tryz.ntmps67
  go_wp2_with fail
  refine (l18Letters_any _ S _ _ r (HR.out.up (by repeat (first | exact Chg.refl _ _ | apply Chg.drew | apply Chg.drewN | refine Chg.alloc ?_ _))) HS.out).mono ?_
  rintro e w1 ⟨v1, rfl, k1, g1⟩
  obtain ⟨A, c, rfl, hlc, hcm, -⟩ := k1.shape
  have hz1 := g1.size
  have H := Lib.hid k1
  have M1 := Lib.hid (M0.out.up g1)
  have G1 := Lib.hid (Chg.trans (show Up w _ from (by repeat (first | exact Chg.refl _ _ | apply Chg.drew | apply Chg.drewN | refine Chg.alloc ?_ _))) g1)
  have hz0 := G1.out.size
  clear k1 g1 M0
  have hbb : w.heap.size + 1 ≤ w1.heap.size := by simp at hz1; omega
  generalize hws : letL 0 r.xs = ws at *
  have HWS := Lib.hid hws
  clear hws
  go_wp2
  go_loopw [4, 6, 7, 8] (fun v i _ _ wr => ∃ j : Nat, j ≤ ws.length ∧ i = .int .i64 j ∧ Hid (OwnO wr w.heap.size v (crossL 1 (ws.take j))) ∧ Hid (∀ g, v.ownBlock = some g → g < w.heap.size + 1 ∨ w1.heap.size ≤ g) ∧ Hid (Up w wr) ∧ Hid (Ints wr (New (w.heap.size + 1) w1.heap.size) (.slice A ws.length c) ws) ∧ w1.heap.size ≤ wr.heap.size) (fun _ i _ _ _ => ws.length - (intOf i).toNat)
  case atStart => exact ⟨0, by omega, rfl, by simpa [Hid, crossL] using M1.out, fun g hg => .inl (by simp [Value.ownBlock] at hg; omega), G1.out, H.out.mono (fun x _ hx => ⟨by have := hx.1; simp at this; exact this, hx.2⟩), Nat.le_refl _⟩
  clear M1 H
  case round =>
    obtain ⟨j, hj, rfl, ho, hf, hg, hK, hsz1⟩ := hrel
    by_cases hlt : j < ws.length
    · obtain ⟨b1, o1, he1, hbl, hc⟩ := hK.out.ix hlt
      obtain rfl : A = some ⟨b1, o1, none⟩ := he1
      have f1 := hc j hlt
      rw [ix_eq hlt] at f1
      obtain ⟨ha0, ha1⟩ := HW.out _ (List.getElem_mem hlt)
      have HB := Lib.hid (needle_letter ⟨ha0, ha1⟩)
      have hk := absI_le ha1
      have HT := Lib.hid (crossL_take 1 hlt)
      have HLL := Lib.hid (show (crossL 1 (ws.take j)).length + (crossM (1 + 2 * (absI ws[j] - 1)) (decide (0 < ws[j]))).length ≤ 1099511627776 by rw [crossL_len, crossM_length, List.length_take]; omega)
      have HE := Lib.hid (show 2 * (absI ws[j] - 1) + 1 = 1 + 2 * (absI ws[j] - 1) by omega)
      have hsz := hg.out.size
      clear hc
      go_wp2
      have w1s : IntKind.i64.wrap (absI ws[j] - 1) = absI ws[j] - 1 := IntWalk.i64_in _ (by omega)
      go_region_held3 (fun w' => w'.cell? ⟨b1, o1 + j, none⟩ = some (.int .i64 ws[j]))
        (first | (exact f1) | (exact Chg.cell g1 (by assumption) id))
        (first | (go_at_call 98; refine (sAbs_any _ _ ⟨by omega, by omega⟩).mono ?_; rintro e w' ⟨rfl, rfl⟩) | (go_at_call 65; refine (l20Needle_any _ _ ?_).mono ?_; (exact HB.out.2); rintro e w' ⟨rfl, rfl⟩) | (go_at_call 97; refine (sCrossColumns_ok _ _ _ ?_).mono ?_; (exact HB.out.1); rintro e w2 ⟨v1, rfl, k1, g1⟩; obtain ⟨A1, c1, rfl, hl1, hc1, -⟩ := k1.shape; have HK1 := Lib.hid k1; have HO1 := Lib.hid (OwnO.up (ho.out.up (by repeat (first | exact Chg.refl _ _ | apply Chg.drew | apply Chg.drewN | refine Chg.alloc ?_ _))) g1); have HG1 := Lib.hid (Chg.trans (Chg.trans hg.out (by repeat (first | exact Chg.refl _ _ | apply Chg.drew | apply Chg.drewN | refine Chg.alloc ?_ _))) g1); have HKK := Lib.hid (Ints.up (hK.out.up (by repeat (first | exact Chg.refl _ _ | apply Chg.drew | apply Chg.drewN | refine Chg.alloc ?_ _))) g1); have hsz2 := HG1.out.size; have hsz3 : wr.heap.size ≤ w2.heap.size := g1.size))
      clear g1 f1
      have HM := Lib.hid (show crossL 1 (ws.take (j + 1)) = crossL 1 (ws.take j) ++ crossM (2 * (absI ws[j] - 1) + 1) (decide (0 < ws[j])) by rw [HT.out, HE.out])
      have HLM := Lib.hid (show (crossL 1 (ws.take j)).length + (crossM (2 * (absI ws[j] - 1) + 1) (decide (0 < ws[j]))).length ≤ 1099511627776 by have := HLL.out; rw [crossM_length] at *; exact this)
      clear ho hg hK
      go_wp2_with (first | (at_builtin; refine wp_append_ops2 rfl _ _ rfl w.heap.size _ (crossL 1 (ws.take j)) rfl HO1.out _ _ (crossM (2 * (absI ws[j] - 1) + 1) (decide (0 < ws[j]))) rfl HK1.out HLM.out ?_ ?_; (first | omega | (simp; omega)); intro v' w3 ho1 ho2 ho3 hg1; have HO := Lib.hid ho1; have HB2 := Lib.hid ho2; have HB3 := Lib.hid ho3; have HG := Lib.hid (Chg.new HG1.out hg1 (fun i hi => by omega)); have hsz4 : w2.heap.size ≤ w3.heap.size := hg1.size; clear ho1 ho2 ho3 hg1))
      go_roundw
      case rel => exact ⟨j + 1, by omega, by go_num, by rw [HM.out]; exact HO.out, fun g hgg => (HB3.out g hgg).elim (hf.out g) (fun hh => .inr (by have h9 : w2.heap.size ≤ g := hh; omega)), HG.out, HKK.out.keep HB2.out (fun x _ hx hv => by have := hf.out x hv; simp only [New] at hx; omega), by omega⟩
      case measure => simp [intOf]; omega
    · obtain rfl : j = ws.length := by omega
      have HX := Lib.hid (show ws.take ws.length = ws by rw [List.take_length])
      go_wp2
      go_ret2
      exact ⟨_, rfl, by have := ho.out.ops; rw [HX.out] at this; rw [HWS.out]; exact this, hg.out⟩
set_option maxHeartbeats 2000000 in
theorem crossingOps_any (w : World) (S : Nat → Prop) (v : Value) (r : RowM) (h : RowV w S v r) (hr : rowCodeM r.d r.c r.xs = 0) :
    Calls Tryz.prog 82 #[v] w fun e w' => ∃ v', e = .returned v' ∧ Ops w' (New w.heap.size w'.heap.size) v' (crossL 1 (letL 0 r.xs)) ∧ Up w w' := by
  obtain ⟨A, c, rfl, h4, h5, h6⟩ := openRow h
  have HI := Lib.hid h
  have U0 := Lib.hid (Chg.refl Nowhere w)
  have HS := Lib.hid (laid_st_results hr)
  have HW := Lib.hid (show letOk 100 (letL 0 r.xs) from fun k hk => by have := absI_bd ((laid_of hr).letters k hk); omega)
  have hll := letL_length r.xs 0
  have hl := (laid_of hr).len
  clear h h4 hr
  have U_1 := Lib.hid (Chg.trans U0.out ((Chg.refl Nowhere w).alloc (.cells #[.int .i64 r.d, .int .i64 r.c, .slice A r.xs.length c] 72)))
  clear U0
  have I_2 := Lib.hid (HI.out.up ((Chg.refl Nowhere w).alloc (.cells #[.int .i64 r.d, .int .i64 r.c, .slice A r.xs.length c] 72)))
  clear HI
  have q0_3 := (show (w.alloc (.cells #[.int .i64 r.d, .int .i64 r.c, .slice A r.xs.length c] 72)).cell? ⟨w.heap.size, 0, none⟩ = some (.int .i64 r.d) from cell_new _ _ _ _)
  have q1_4 := (show (w.alloc (.cells #[.int .i64 r.d, .int .i64 r.c, .slice A r.xs.length c] 72)).cell? ⟨w.heap.size, 1, none⟩ = some (.int .i64 r.c) from cell_new _ _ _ _)
  have q2_5 := (show (w.alloc (.cells #[.int .i64 r.d, .int .i64 r.c, .slice A r.xs.length c] 72)).cell? ⟨w.heap.size, 2, none⟩ = some (.slice A r.xs.length c) from cell_new _ _ _ _)
  have hbx6 : w.heap.size < (w.alloc (.cells #[.int .i64 r.d, .int .i64 r.c, .slice A r.xs.length c] 72)).heap.size := by simp
  go_enter Tryz.func82, Tryz.ntmps82
  go_wp2_with fail
  refine (letters_any _ S _ r (I_2.out.up (by repeat (first | exact Chg.refl _ _ | apply Chg.drew | apply Chg.drewN | refine Chg.alloc ?_ _))) HS.out).mono ?_
  rintro e w7 ⟨v7, rfl, k1, g1⟩
  obtain ⟨A7, c7, rfl, hl7, hc7, -⟩ := k1.shape
  have K1 := Lib.hid k1
  clear k1
  have G1 := Lib.hid g1
  have hz7 := G1.out.size
  clear g1
  have U_8 := Lib.hid (Chg.trans U_1.out (Chg.trans (by repeat (first | exact Chg.refl _ _ | apply Chg.drew | apply Chg.drewN | refine Chg.alloc ?_ _)) G1.out))
  clear U_1
  have I_9 := Lib.hid (I_2.out.up (Chg.trans (by repeat (first | exact Chg.refl _ _ | apply Chg.drew | apply Chg.drewN | refine Chg.alloc ?_ _)) G1.out))
  clear I_2
  have q0_10 := Chg.cell (Chg.trans (by repeat (first | exact Chg.refl _ _ | apply Chg.drew | apply Chg.drewN | refine Chg.alloc ?_ _)) G1.out) q0_3 id
  clear q0_3
  have q1_11 := Chg.cell (Chg.trans (by repeat (first | exact Chg.refl _ _ | apply Chg.drew | apply Chg.drewN | refine Chg.alloc ?_ _)) G1.out) q1_4 id
  clear q1_4
  have q2_12 := Chg.cell (Chg.trans (by repeat (first | exact Chg.refl _ _ | apply Chg.drew | apply Chg.drewN | refine Chg.alloc ?_ _)) G1.out) q2_5 id
  clear q2_5
  clear G1
  have K_13 := Lib.hid (K1.out)
  clear K1
  go_wp2_with fail
  refine (crossOps_any _ _ _ 1 _ (K_13.out.up (by repeat (first | exact Chg.refl _ _ | apply Chg.drew | apply Chg.drewN | refine Chg.alloc ?_ _))) ⟨by omega, by omega⟩ HW.out (by omega)).mono ?_
  rintro e w14 ⟨v14, rfl, k1, g1⟩
  obtain ⟨A14, c14, rfl, hl14, hc14, -⟩ := k1.shape
  have K1 := Lib.hid k1
  clear k1
  have G1 := Lib.hid g1
  have hz14 := G1.out.size
  clear g1
  have U_15 := Lib.hid (Chg.trans U_8.out (Chg.trans (by repeat (first | exact Chg.refl _ _ | apply Chg.drew | apply Chg.drewN | refine Chg.alloc ?_ _)) G1.out))
  clear U_8
  have I_16 := Lib.hid (I_9.out.up (Chg.trans (by repeat (first | exact Chg.refl _ _ | apply Chg.drew | apply Chg.drewN | refine Chg.alloc ?_ _)) G1.out))
  clear I_9
  have q0_17 := Chg.cell (Chg.trans (by repeat (first | exact Chg.refl _ _ | apply Chg.drew | apply Chg.drewN | refine Chg.alloc ?_ _)) G1.out) q0_10 id
  clear q0_10
  have q1_18 := Chg.cell (Chg.trans (by repeat (first | exact Chg.refl _ _ | apply Chg.drew | apply Chg.drewN | refine Chg.alloc ?_ _)) G1.out) q1_11 id
  clear q1_11
  have q2_19 := Chg.cell (Chg.trans (by repeat (first | exact Chg.refl _ _ | apply Chg.drew | apply Chg.drewN | refine Chg.alloc ?_ _)) G1.out) q2_12 id
  clear q2_12
  have K_20 := Lib.hid (K_13.out.up (Chg.trans (by repeat (first | exact Chg.refl _ _ | apply Chg.drew | apply Chg.drewN | refine Chg.alloc ?_ _)) G1.out))
  clear K_13
  clear G1
  have O_21 := Lib.hid (K1.out)
  clear K1
  go_wp2
  go_ret
  exact ⟨_, rfl, O_21.out.mono (fun b _ hb => ⟨by have := hb.1; simp at *; omega, hb.2⟩), (Chg.trans U_15.out (by repeat (first | exact Chg.refl _ _ | apply Chg.drew | apply Chg.drewN | refine Chg.alloc ?_ _)))⟩
def crossingOut (r : RowM) : List OpM := if rowCodeM r.d r.c r.xs = 0 then crossL 1 (letL 0 r.xs) else []
theorem crossingOut_bd (r : RowM) : cntOps (crossingOut r) ≤ 1000000 := by
  unfold crossingOut cntOps
  split
  · rename_i h
    have hl := (laid_of h).len
    have := letL_length r.xs 0
    rw [crossL_len]
    omega
  · simp
end Go.Proofs.YtnjfhpgmogopnaaGreat
namespace Go.Proofs.YtnjfhpgmogopnaaGreat
open Go.ChangeShapes Go.WideShapes Go.ChangeAt Go.RowKit
/-- in the middle of turning a list round: the first k and the last k have changed places -/
def revAt (xs : List Int) (k t : Nat) : Int := if t < k ∨ xs.length - k ≤ t then ix xs (xs.length - 1 - t) else ix xs t
theorem revAt_k {xs : List Int} {k m : Nat} (hm : m = xs.length - 1 - k) (_h : k < m) : revAt xs (k + 1) k = ix xs m := by
  unfold revAt
  rw [if_pos (by omega), hm]
theorem revAt_m {xs : List Int} {k m : Nat} (hm : m = xs.length - 1 - k) (h : k < m) : revAt xs (k + 1) m = ix xs k := by
  unfold revAt
  rw [if_pos (by omega), show xs.length - 1 - m = k by omega]
theorem revAt_no {xs : List Int} {k m t : Nat} (hm : m = xs.length - 1 - k) (h : k < m) (h1 : t ≠ k) (h2 : t ≠ m) (ht : t < xs.length) : revAt xs (k + 1) t = revAt xs k t := by
  unfold revAt
  by_cases hh : t < k ∨ xs.length - k ≤ t
  · rw [if_pos hh, if_pos (by omega)]
  · rw [if_neg hh, if_neg (by omega)]
theorem revAt_end {xs : List Int} {k t : Nat} (h : ¬ k + 1 < xs.length - k) (hk : 2 * k ≤ xs.length) (ht : t < xs.length) : revAt xs k t = ix xs (xs.length - 1 - t) := by
  unfold revAt
  by_cases hh : t < k ∨ xs.length - k ≤ t
  · rw [if_pos hh]
  · rw [if_neg hh, show xs.length - 1 - t = t by omega]
set_option maxRecDepth 100000 in
set_option maxHeartbeats 4000000 in
theorem reverse_go (w : World) (b o c : Nat) (xs : List Int) (hlc : xs.length ≤ c) (hcm : c ≤ 9223372036854775807) (_hbl : b < w.heap.size)
    (hc : ∀ t, t < xs.length → w.cell? ⟨b, o + t, none⟩ = some (.int .i64 (ix xs t)) ∧ w.frozen? ⟨b, o + t, none⟩ = false) :
    Calls Tryz.prog 85 #[.slice (some ⟨b, o, none⟩) xs.length c] w fun e w' => e = .returned (.tuple #[]) ∧ Chg (fun x => x = b) w w' ∧ ∀ t, t < xs.length → w'.cell? ⟨b, o + t, none⟩ = some (.int .i64 (ix xs (xs.length - 1 - t))) ∧ w'.frozen? ⟨b, o + t, none⟩ = false := by
  have Hc := Lib.hid hc
  clear hc
  go_enter Tryz.func85, Tryz.ntmps85
  go_wp2
  go_loopw [2, 3] (fun i j wr => ∃ k : Nat, 2 * k ≤ xs.length ∧ i = .int .i64 k ∧ j = .int .i64 ((xs.length : Int) - 1 - k) ∧ Hid (Chg (fun x => x = b) w wr) ∧ Hid (∀ t, t < xs.length → wr.cell? ⟨b, o + t, none⟩ = some (.int .i64 (revAt xs k t)) ∧ wr.frozen? ⟨b, o + t, none⟩ = false)) (fun i _ _ => xs.length - (intOf i).toNat)
  case atStart => exact ⟨0, by omega, rfl, by simp, Chg.refl _ _, fun t ht => by
    have := Hc.out t ht
    unfold revAt
    rw [if_neg (by omega)]
    exact this⟩
  case round =>
    obtain ⟨k, hk, rfl, rfl, hg, hcs⟩ := hrel
    by_cases hlt : k + 1 < xs.length - k
    · obtain ⟨m, hm⟩ : ∃ m : Nat, m = xs.length - 1 - k := ⟨_, rfl⟩
      have hmI : (xs.length : Int) - 1 - k = m := by omega
      have hmk : k < m ∧ m < xs.length := by omega
      obtain ⟨hm1, hm2⟩ := hmk
      obtain ⟨p1, p2⟩ := hcs.out k (by omega)
      obtain ⟨p3, p4⟩ := hcs.out m hm2
      have e1 : revAt xs k k = ix xs k := by unfold revAt; rw [if_neg (by omega)]
      have e2 : revAt xs k m = ix xs m := by unfold revAt; rw [if_neg (by omega)]
      rw [e1] at p1
      rw [e2] at p3
      have HM := Lib.hid hm
      rw [hmI]
      have HMI := Lib.hid hmI
      clear e1 e2 hm hmI
      have hdd : decide ((k : Int) < (m : Int)) = true := decide_eq_true (by omega)
      have hnn : ¬ o + k = o + m := by omega
      have hnn2 : ¬ o + m = o + k := by omega
      go_wp2
      go_region
      all_goals go_wp2
      all_goals
        refine ⟨⟨k + 1, by omega, by go_num, ?_, ?_, ?_⟩, ?_⟩
        · have := HM.out; simp only [Value.int.injEq, true_and]; omega
        · exact Chg.drew (Chg.setCell (Chg.setCell hg.out (.inl rfl) _) (.inl rfl) _)
        · intro t ht
          obtain ⟨q1, q2⟩ := hcs.out t ht
          have hk1 : (wr.setCell ⟨b, o + k, none⟩ (.int .i64 (ix xs m))).cell? ⟨b, o + m, none⟩ = some (.int .i64 (ix xs m)) := by
            rw [World.cell?_setCell_other _ _ _ _ (fun h => hnn (Addr.mk.inj h).2.1)]
            exact p3
          by_cases ek : t = k
          · subst ek
            rw [revAt_k HM.out hm1]
            refine ⟨?_, by simpa using q2⟩
            show (World.setCell _ _ _).cell? _ = _
            rw [World.cell?_setCell_other _ _ _ _ (fun h => hnn2 (Addr.mk.inj h).2.1), World.cell?_setCell_same _ _ _ p1]
          · by_cases em : t = m
            · subst em
              rw [revAt_m HM.out hm1]
              refine ⟨?_, by simpa using q2⟩
              show (World.setCell _ _ _).cell? _ = _
              rw [World.cell?_setCell_same _ _ _ hk1]
            · rw [revAt_no HM.out hm1 ek em ht]
              refine ⟨?_, by simpa using q2⟩
              show (World.setCell _ _ _).cell? _ = _
              rw [World.cell?_setCell_other _ _ _ _ (fun h => em (by have := (Addr.mk.inj h).2.1; omega)), World.cell?_setCell_other _ _ _ _ (fun h => ek (by have := (Addr.mk.inj h).2.1; omega))]
              exact q1
        · simp [intOf]; omega
    · have hnot : ¬ (k : Int) < (xs.length : Int) - 1 - k := by omega
      have HE := Lib.hid (fun t (ht : t < xs.length) => revAt_end hlt hk ht)
      clear hlt
      go_wp2
      go_end0
      refine ⟨rfl, hg.out, fun t ht => ?_⟩
      rw [← HE.out t ht]
      exact hcs.out t ht
theorem reverse_any (w : World) (S : Nat → Prop) (v : Value) (xs : List Int) (h : Ints w S v xs) :
    Calls Tryz.prog 85 #[v] w fun e w' => e = .returned (.tuple #[]) ∧ Chg S w w' ∧ Ints w' S v xs.reverse := by
  obtain ⟨A, c, rfl, hlc, hcm, hx, hr, hnn⟩ := h
  by_cases hp : 0 < xs.length
  · obtain ⟨b, o, rfl, hS, hbl, hc⟩ := hr hp
    refine (reverse_go w b o c xs hlc hcm hbl (fun t ht => by rw [ix_eq ht]; exact hc t ht)).mono ?_
    rintro e w' ⟨he, hg, hcs⟩
    refine ⟨he, hg.mono (fun k _ hk => by rw [hk]; exact hS), _, c, by rw [List.length_reverse], by rw [List.length_reverse]; exact hlc, hcm, fun x hxx => hx x (List.mem_reverse.1 hxx), fun _ => ⟨b, o, rfl, hS, Nat.lt_of_lt_of_le hbl hg.size, fun t ht => ?_⟩, by simp⟩
    have ht' : t < xs.length := by simpa using ht
    have := hcs t ht'
    rw [ix_eq (show xs.length - 1 - t < xs.length by omega)] at this
    rw [List.getElem_reverse]
    exact this
  · have hn : xs = [] := List.eq_nil_of_length_eq_zero (by omega)
    subst hn
    clear hr hp
    go_enter Tryz.func85, Tryz.ntmps85
    go_wp2
    go_loop [2, 3] (fun i j => i = .int .i64 0 ∧ j = .int .i64 (-1)) (fun _ _ => 0)
    case atStart => exact ⟨rfl, by simp⟩
    case round =>
      obtain ⟨rfl, rfl⟩ := hrel
      go_wp2
      go_end0
      exact ⟨rfl, Chg.refl _ _, Ints.nil _ _ _ _ hcm hnn⟩
end Go.Proofs.YtnjfhpgmogopnaaGreat
