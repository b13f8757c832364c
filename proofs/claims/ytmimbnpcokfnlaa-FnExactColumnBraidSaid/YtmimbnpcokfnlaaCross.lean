/- The operations with which two columns change places. Condition: a small needle. -/
import Derived.Test.YtmimbnpcokfnlaaConcat
import Derived.Test.YtmimbnpcokfnlaaRack
namespace Go.Proofs.Ytmimbnpcokfnlaa
open Go.ChangeShapes Go.WideShapes Go.ChangeAt Go.RowKit
def crossM (l : Int) (f : Bool) : List OpM := if f then rackM (l + 2) (l - 1) ++ rackM l (l + 2) ++ rackM (l - 1) l else rackM l (l + 3) ++ rackM (l + 2) l ++ rackM (l + 3) (l + 2)
theorem crossM_length (l : Int) (f : Bool) : (crossM l f).length = 12 := by
  cases f <;> simp [crossM, rackM]
set_option maxHeartbeats 4000000 in
set_option maxRecDepth 100000 in
theorem crossColumns_any (w : World) (l : Int) (f : Bool) (h0 : 1 ≤ l) (h1 : l ≤ 500) :
    Calls Try.prog 251 #[.int .i64 l, .bool f] w fun e w' => ∃ v, e = .returned v ∧ Ops w' (New w.heap.size w'.heap.size) v (crossM l f) ∧ Up w w' := by
  cases f
  · go_enter Try.func251, Try.ntmps251
    go_wp2_with fail
    refine (rackOps_any _ (l) (l + 3) (by omega) (by omega)).mono ?_
    rintro e w1 ⟨v1, rfl, k1, g1⟩
    obtain ⟨A1, c1, rfl, hl1, hc1, -⟩ := k1.shape
    have hz1 := g1.size
    have K1 := Lib.hid k1
    have G1 := Lib.hid g1
    clear k1 g1
    go_wp2_with fail
    refine (rackOps_any _ (l + 2) (l) (by omega) (by omega)).mono ?_
    rintro e w2 ⟨v2, rfl, k2, g2⟩
    obtain ⟨A2, c2, rfl, hl2, hc2, -⟩ := k2.shape
    have hz2 := g2.size
    have K1' := Lib.hid (K1.out.up g2)
    have K2 := Lib.hid k2
    have G2 := Lib.hid (Chg.trans G1.out g2)
    clear K1 G1 k2 g2
    go_wp2_with fail
    refine (rackOps_any _ (l + 3) (l + 2) (by omega) (by omega)).mono ?_
    rintro e w3 ⟨v3, rfl, k3, g3⟩
    obtain ⟨A3, c3, rfl, hl3, hc3, -⟩ := k3.shape
    have hz3 := g3.size
    have K1 := Lib.hid (K1'.out.up g3)
    have K2' := Lib.hid (K2.out.up g3)
    have K3 := Lib.hid k3
    have G3 := Lib.hid (Chg.trans G2.out g3)
    clear K1' K2 G2 k3 g3
    go_wp2_with fail
    refine (concatOps_any _ (fun _ => True) (fun _ => True) _ [_, _, _] [rackM (l) (l + 3), rackM (l + 2) (l), rackM (l + 3) (l + 2)] rfl (Raw.of_block (heap_new_at rfl) rfl trivial rfl (by simp) (by omega)) ?_ (by simp [sumLen, rackM])).mono ?_
    · intro i u y hu hy
      match i, hu, hy with
      | 0, hu, hy => injection hu with hu; injection hy with hy; subst hu hy; exact (K1.out.alloc' _).mono fun _ _ _ => trivial
      | 1, hu, hy => injection hu with hu; injection hy with hy; subst hu hy; exact (K2'.out.alloc' _).mono fun _ _ _ => trivial
      | 2, hu, hy => injection hu with hu; injection hy with hy; subst hu hy; exact (K3.out.alloc' _).mono fun _ _ _ => trivial
      | i + 3, hu, hy => simp at hu
    rintro e w4 ⟨v4, rfl, k4, g4⟩
    have K4 := Lib.hid k4
    have G4 := Lib.hid g4
    clear k4 g4
    go_wp2
    go_ret
    refine ⟨_, rfl, ?_, Chg.trans (G3.out.alloc _) G4.out⟩
    have h5 := K4.out.mono (T := New w.heap.size w4.heap.size) (fun b _ hb => ⟨by have := hb.1; simp at this; omega, hb.2⟩)
    simpa [crossM] using h5
  · go_enter Try.func251, Try.ntmps251
    go_wp2_with fail
    refine (rackOps_any _ (l + 2) (l - 1) (by omega) (by omega)).mono ?_
    rintro e w1 ⟨v1, rfl, k1, g1⟩
    obtain ⟨A1, c1, rfl, hl1, hc1, -⟩ := k1.shape
    have hz1 := g1.size
    have K1 := Lib.hid k1
    have G1 := Lib.hid g1
    clear k1 g1
    go_wp2_with fail
    refine (rackOps_any _ (l) (l + 2) (by omega) (by omega)).mono ?_
    rintro e w2 ⟨v2, rfl, k2, g2⟩
    obtain ⟨A2, c2, rfl, hl2, hc2, -⟩ := k2.shape
    have hz2 := g2.size
    have K1' := Lib.hid (K1.out.up g2)
    have K2 := Lib.hid k2
    have G2 := Lib.hid (Chg.trans G1.out g2)
    clear K1 G1 k2 g2
    go_wp2_with fail
    refine (rackOps_any _ (l - 1) (l) (by omega) (by omega)).mono ?_
    rintro e w3 ⟨v3, rfl, k3, g3⟩
    obtain ⟨A3, c3, rfl, hl3, hc3, -⟩ := k3.shape
    have hz3 := g3.size
    have K1 := Lib.hid (K1'.out.up g3)
    have K2' := Lib.hid (K2.out.up g3)
    have K3 := Lib.hid k3
    have G3 := Lib.hid (Chg.trans G2.out g3)
    clear K1' K2 G2 k3 g3
    go_wp2_with fail
    refine (concatOps_any _ (fun _ => True) (fun _ => True) _ [_, _, _] [rackM (l + 2) (l - 1), rackM (l) (l + 2), rackM (l - 1) (l)] rfl (Raw.of_block (heap_new_at rfl) rfl trivial rfl (by simp) (by omega)) ?_ (by simp [sumLen, rackM])).mono ?_
    · intro i u y hu hy
      match i, hu, hy with
      | 0, hu, hy => injection hu with hu; injection hy with hy; subst hu hy; exact (K1.out.alloc' _).mono fun _ _ _ => trivial
      | 1, hu, hy => injection hu with hu; injection hy with hy; subst hu hy; exact (K2'.out.alloc' _).mono fun _ _ _ => trivial
      | 2, hu, hy => injection hu with hu; injection hy with hy; subst hu hy; exact (K3.out.alloc' _).mono fun _ _ _ => trivial
      | i + 3, hu, hy => simp at hu
    rintro e w4 ⟨v4, rfl, k4, g4⟩
    have K4 := Lib.hid k4
    have G4 := Lib.hid g4
    clear k4 g4
    go_wp2
    go_ret
    refine ⟨_, rfl, ?_, Chg.trans (G3.out.alloc _) G4.out⟩
    have h5 := K4.out.mono (T := New w.heap.size w4.heap.size) (fun b _ hb => ⟨by have := hb.1; simp at this; omega, hb.2⟩)
    simpa [crossM] using h5
set_option maxHeartbeats 4000000 in
set_option maxRecDepth 100000 in
theorem l22Cross_any (w : World) (l : Int) (f : Bool) (h0 : 1 ≤ l) (h1 : l ≤ 500) :
    Calls Try.prog 217 #[.int .i64 l, .bool f] w fun e w' => ∃ v, e = .returned v ∧ Ops w' (New w.heap.size w'.heap.size) v (crossM l f) ∧ Up w w' := by
  cases f
  · go_enter Try.func217, Try.ntmps217
    have HO := Lib.hid (OwnO.made w w.heap.size (Nat.le_refl _))
    have HG := Lib.hid ((Chg.refl Nowhere w).alloc (.cells #[] 109))
    go_wp2_with fail
    refine (l21Over_any _ (l) (l + 3) (by omega) (by omega)).mono ?_
    rintro e w0a ⟨v0, rfl, k1, g1⟩
    obtain ⟨A0, c0, rfl, hl0, hc0, -⟩ := k1.shape
    have HO1 := Lib.hid (HO.out.up g1)
    have HG1 := Lib.hid (Chg.trans HG.out g1)
    have HK1 := Lib.hid k1
    have hz0a := HG1.out.size
    clear HO HG k1 g1
    go_wp2_with (first | (at_builtin; refine wp_append_ops rfl _ _ rfl w.heap.size _ ([]) rfl HO1.out _ _ (rackM (l) (l + 3)) rfl HK1.out (by simp [rackM]) ?_ ?_; (first | omega | (simp; omega)); intro v' w0b ho1 _ hg1; have HO := Lib.hid ho1; have HG := Lib.hid (Chg.new HG1.out hg1 (fun i hi => by omega)); clear ho1 hg1 HO1 HG1 HK1))
    refine (l21Over_any _ (l + 2) (l) (by omega) (by omega)).mono ?_
    rintro e w1a ⟨v1, rfl, k1, g1⟩
    obtain ⟨A1, c1, rfl, hl1, hc1, -⟩ := k1.shape
    have HO1 := Lib.hid (HO.out.up g1)
    have HG1 := Lib.hid (Chg.trans HG.out g1)
    have HK1 := Lib.hid k1
    have hz1a := HG1.out.size
    clear HO HG k1 g1
    go_wp2_with (first | (at_builtin; refine wp_append_ops rfl _ _ rfl w.heap.size _ (([]) ++ rackM (l) (l + 3)) rfl HO1.out _ _ (rackM (l + 2) (l)) rfl HK1.out (by simp [rackM]) ?_ ?_; (first | omega | (simp; omega)); intro v' w1b ho1 _ hg1; have HO := Lib.hid ho1; have HG := Lib.hid (Chg.new HG1.out hg1 (fun i hi => by omega)); clear ho1 hg1 HO1 HG1 HK1))
    refine (l21Over_any _ (l + 3) (l + 2) (by omega) (by omega)).mono ?_
    rintro e w2a ⟨v2, rfl, k1, g1⟩
    obtain ⟨A2, c2, rfl, hl2, hc2, -⟩ := k1.shape
    have HO1 := Lib.hid (HO.out.up g1)
    have HG1 := Lib.hid (Chg.trans HG.out g1)
    have HK1 := Lib.hid k1
    have hz2a := HG1.out.size
    clear HO HG k1 g1
    go_wp2_with (first | (at_builtin; refine wp_append_ops rfl _ _ rfl w.heap.size _ ((([]) ++ rackM (l) (l + 3)) ++ rackM (l + 2) (l)) rfl HO1.out _ _ (rackM (l + 3) (l + 2)) rfl HK1.out (by simp [rackM]) ?_ ?_; (first | omega | (simp; omega)); intro v' w2b ho1 _ hg1; have HO := Lib.hid ho1; have HG := Lib.hid (Chg.new HG1.out hg1 (fun i hi => by omega)); clear ho1 hg1 HO1 HG1 HK1))
    go_ret
    refine ⟨_, rfl, ?_, HG.out⟩
    simpa [crossM] using HO.out.ops
  · go_enter Try.func217, Try.ntmps217
    have HO := Lib.hid (OwnO.made w w.heap.size (Nat.le_refl _))
    have HG := Lib.hid ((Chg.refl Nowhere w).alloc (.cells #[] 109))
    go_wp2_with fail
    refine (l21Over_any _ (l + 2) (l - 1) (by omega) (by omega)).mono ?_
    rintro e w0a ⟨v0, rfl, k1, g1⟩
    obtain ⟨A0, c0, rfl, hl0, hc0, -⟩ := k1.shape
    have HO1 := Lib.hid (HO.out.up g1)
    have HG1 := Lib.hid (Chg.trans HG.out g1)
    have HK1 := Lib.hid k1
    have hz0a := HG1.out.size
    clear HO HG k1 g1
    go_wp2_with (first | (at_builtin; refine wp_append_ops rfl _ _ rfl w.heap.size _ ([]) rfl HO1.out _ _ (rackM (l + 2) (l - 1)) rfl HK1.out (by simp [rackM]) ?_ ?_; (first | omega | (simp; omega)); intro v' w0b ho1 _ hg1; have HO := Lib.hid ho1; have HG := Lib.hid (Chg.new HG1.out hg1 (fun i hi => by omega)); clear ho1 hg1 HO1 HG1 HK1))
    refine (l21Over_any _ (l) (l + 2) (by omega) (by omega)).mono ?_
    rintro e w1a ⟨v1, rfl, k1, g1⟩
    obtain ⟨A1, c1, rfl, hl1, hc1, -⟩ := k1.shape
    have HO1 := Lib.hid (HO.out.up g1)
    have HG1 := Lib.hid (Chg.trans HG.out g1)
    have HK1 := Lib.hid k1
    have hz1a := HG1.out.size
    clear HO HG k1 g1
    go_wp2_with (first | (at_builtin; refine wp_append_ops rfl _ _ rfl w.heap.size _ (([]) ++ rackM (l + 2) (l - 1)) rfl HO1.out _ _ (rackM (l) (l + 2)) rfl HK1.out (by simp [rackM]) ?_ ?_; (first | omega | (simp; omega)); intro v' w1b ho1 _ hg1; have HO := Lib.hid ho1; have HG := Lib.hid (Chg.new HG1.out hg1 (fun i hi => by omega)); clear ho1 hg1 HO1 HG1 HK1))
    refine (l21Over_any _ (l - 1) (l) (by omega) (by omega)).mono ?_
    rintro e w2a ⟨v2, rfl, k1, g1⟩
    obtain ⟨A2, c2, rfl, hl2, hc2, -⟩ := k1.shape
    have HO1 := Lib.hid (HO.out.up g1)
    have HG1 := Lib.hid (Chg.trans HG.out g1)
    have HK1 := Lib.hid k1
    have hz2a := HG1.out.size
    clear HO HG k1 g1
    go_wp2_with (first | (at_builtin; refine wp_append_ops rfl _ _ rfl w.heap.size _ ((([]) ++ rackM (l + 2) (l - 1)) ++ rackM (l) (l + 2)) rfl HO1.out _ _ (rackM (l - 1) (l)) rfl HK1.out (by simp [rackM]) ?_ ?_; (first | omega | (simp; omega)); intro v' w2b ho1 _ hg1; have HO := Lib.hid ho1; have HG := Lib.hid (Chg.new HG1.out hg1 (fun i hi => by omega)); clear ho1 hg1 HO1 HG1 HK1))
    go_ret
    refine ⟨_, rfl, ?_, HG.out⟩
    simpa [crossM] using HO.out.ops
end Go.Proofs.Ytmimbnpcokfnlaa
