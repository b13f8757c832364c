/- Strands behind events; crossings among events. No condition. -/
import Derived.Test.YtjgdcjhmfbefdaaVprM
set_option linter.unusedSimpArgs false
set_option linter.unusedVariables false
set_option maxRecDepth 100000
set_option maxHeartbeats 1000000
namespace Go.Proofs.Ytjgdcjhmfbefdaa
open Go.ChangeShapes Go.WideShapes Go.ChangeAt Go.RowKit
theorem strandsAfter_any (w : World) (S : Nat → Prop) (v : Value) (xs : List EvM) (n : Int) (hn : 0 ≤ n ∧ n ≤ 12) (h : Evs w S v xs) :
    Calls Try.prog 96 #[.int .i64 n, v] w fun e w' => e = .returned (stV (stM xs n)) ∧ Up w w' := by
  obtain ⟨A, c, rfl, hlc, hcm, -⟩ := h.shape
  have H := Lib.hid h
  clear h
  go_enter Try.func96, Try.ntmps96
  go_wp2
  go_loopw [0, 10] (fun s i wr => ∃ (j : Nat) (m : Int), j ≤ xs.length ∧ i = .int .i64 j ∧ s = .int .i64 m ∧ Hid (stM (xs.take j) n = some m) ∧ Hid (0 ≤ m ∧ m ≤ 12) ∧ Hid (Up w wr)) (fun _ i _ => xs.length - (intOf i).toNat)
  case atStart => exact ⟨0, n, by omega, rfl, rfl, Lib.hid (by simp [stM]), hn, Chg.refl _ _⟩
  case round =>
    obtain ⟨j, m, hj, rfl, rfl, hs, hm, hu⟩ := hrel
    by_cases hlt : j < xs.length
    · skip
      obtain ⟨b, o, c', he1, -, -, hc⟩ := (H.out.up hu.out).at_ hlt
      obtain ⟨rfl, rfl⟩ : A = some ⟨b, o, none⟩ ∧ c = c' := by simpa using he1
      have f0 := (hc 0 _ rfl).1
      have f1 := (hc 1 _ rfl).1
      have f2 := (hc 2 _ rfl).1
      have f3 := (hc 3 _ rfl).1
      have f4 := (hc 4 _ rfl).1
      have f5 := (hc 5 _ rfl).1
      rw [Nat.add_zero] at f0
      clear hc he1
      have uc := Lib.hid (Chg.refl Nowhere wr)
      cases hk : evOk xs[j] m with
      | false =>
        have HK := Lib.hid hk
        have HB := Lib.hid (stM_stop hlt hs.out (stStep_no hk))
        clear hk
        go_wp2_with fail
        refine (callB (evValid_any _ xs[j] m hm.out) HK.out).mono ?_
        rintro e w1 ⟨rfl, g1⟩
        have G1 := Lib.hid (show Up wr _ from Chg.trans (by repeat (first | exact Chg.refl _ _ | apply Chg.drew | apply Chg.drewN | refine Chg.alloc ?_ _)) g1)
        clear f0 f1 f2 f3 f4 f5 g1
        go_wp2
        go_ret2
        exact ⟨by rw [HB.out]; rfl, Chg.trans hu.out G1.out⟩
      | true =>
        have HK := Lib.hid hk
        clear hk
        go_wp2_with fail
        refine (callB (evValid_any _ xs[j] m hm.out) HK.out).mono ?_
        rintro e w1 ⟨rfl, g1⟩
        have G1 := Lib.hid (show Up wr _ from Chg.trans (by repeat (first | exact Chg.refl _ _ | apply Chg.drew | apply Chg.drewN | refine Chg.alloc ?_ _)) g1)
        have b0 := Chg.cell g1 (show (wr.alloc (.cells #[.int .i64 xs[j].kind, .int .i64 xs[j].place, .int .i64 xs[j].count, .int .i64 xs[j].bed, .int .i64 xs[j].car, .int .i64 xs[j].dir] 106)).cell? ⟨wr.heap.size, 0, none⟩ = some (.int .i64 xs[j].kind) from cell_new _ _ _ _) id
        have b1 := Chg.cell g1 (show (wr.alloc (.cells #[.int .i64 xs[j].kind, .int .i64 xs[j].place, .int .i64 xs[j].count, .int .i64 xs[j].bed, .int .i64 xs[j].car, .int .i64 xs[j].dir] 106)).cell? ⟨wr.heap.size, 1, none⟩ = some (.int .i64 xs[j].place) from cell_new _ _ _ _) id
        have b2 := Chg.cell g1 (show (wr.alloc (.cells #[.int .i64 xs[j].kind, .int .i64 xs[j].place, .int .i64 xs[j].count, .int .i64 xs[j].bed, .int .i64 xs[j].car, .int .i64 xs[j].dir] 106)).cell? ⟨wr.heap.size, 2, none⟩ = some (.int .i64 xs[j].count) from cell_new _ _ _ _) id
        have b3 := Chg.cell g1 (show (wr.alloc (.cells #[.int .i64 xs[j].kind, .int .i64 xs[j].place, .int .i64 xs[j].count, .int .i64 xs[j].bed, .int .i64 xs[j].car, .int .i64 xs[j].dir] 106)).cell? ⟨wr.heap.size, 3, none⟩ = some (.int .i64 xs[j].bed) from cell_new _ _ _ _) id
        have b4 := Chg.cell g1 (show (wr.alloc (.cells #[.int .i64 xs[j].kind, .int .i64 xs[j].place, .int .i64 xs[j].count, .int .i64 xs[j].bed, .int .i64 xs[j].car, .int .i64 xs[j].dir] 106)).cell? ⟨wr.heap.size, 4, none⟩ = some (.int .i64 xs[j].car) from cell_new _ _ _ _) id
        have b5 := Chg.cell g1 (show (wr.alloc (.cells #[.int .i64 xs[j].kind, .int .i64 xs[j].place, .int .i64 xs[j].count, .int .i64 xs[j].bed, .int .i64 xs[j].car, .int .i64 xs[j].dir] 106)).cell? ⟨wr.heap.size, 5, none⟩ = some (.int .i64 xs[j].dir) from cell_new _ _ _ _) id
        clear f0 f1 f2 f3 f4 f5 g1
        go_wp2_with fail
        refine (evAfter_any _ xs[j] m hm.out HK.out).mono ?_
        rintro e w2 ⟨rfl, g2⟩
        have G2 := Lib.hid (Chg.trans G1.out (Chg.trans (by repeat (first | exact Chg.refl _ _ | apply Chg.drew | apply Chg.drewN | refine Chg.alloc ?_ _)) g2))
        have HBD := Lib.hid (evAfter_bd HK.out hm.out)
        clear g2 b0 b1 b2 b3 b4 b5
        by_cases h12 : evAfter xs[j].kind xs[j].count m ≤ 12
        · have HS := Lib.hid (show stM (xs.take (j + 1)) n = some (evAfter xs[j].kind xs[j].count m) by rw [stM_succ hlt, hs.out]; exact stStep_yes HK.out h12)
          obtain ⟨q, hq⟩ : ∃ q, q = evAfter xs[j].kind xs[j].count m := ⟨_, rfl⟩
          rw [← hq] at h12 HS ⊢
          rw [← hq] at HBD
          clear hq
          go_wp2
          go_roundw
          case rel => exact ⟨j + 1, q, by omega, by go_num, rfl, HS, Lib.hid ⟨HBD.out, h12⟩, Lib.hid (Chg.trans hu.out G2.out)⟩
          case measure => first | (simp [intOf]; done) | (simp [intOf]; omega)
        · have HB := Lib.hid (stM_stop hlt hs.out (stStep_big h12))
          obtain ⟨q, hq⟩ : ∃ q, q = evAfter xs[j].kind xs[j].count m := ⟨_, rfl⟩
          rw [← hq] at h12 ⊢
          clear hq
          go_wp2
          go_ret2
          exact ⟨by rw [HB.out]; rfl, Chg.trans hu.out G2.out⟩
    · obtain rfl : j = xs.length := by omega
      have HB := Lib.hid (stM_all hs.out)
      go_wp2
      go_ret2
      exact ⟨by rw [HB.out]; rfl, hu.out⟩
theorem isCross_any (w : World) (x : EvM) : Calls Try.prog 95 #[x.val] w fun e w' => e = .returned (.bool (x.kind == 1)) ∧ Up w w' := by
  go_enter Try.func95, Try.ntmps95
  go_wp2
  go_ret
  exact ⟨rfl, (by repeat (first | exact Chg.refl _ _ | apply Chg.drew | apply Chg.drewN | refine Chg.alloc ?_ _))⟩
def SignPost (b : Bool) (w : World) (e : Ending) (w' : World) : Prop := ∃ n : Int, decide (0 ≤ n) = b ∧ e = .returned (.int .i64 n) ∧ Up w w'
theorem crossIdx_any (w : World) (S : Nat → Prop) (v : Value) (xs : List EvM) (h : Evs w S v xs) :
    Calls Try.prog 160 #[v, .func (.func 95) #[] #[]] w (SignPost (crossB xs) w) := by
  obtain ⟨A, c, rfl, hlc, hcm, -⟩ := h.shape
  have H := Lib.hid h
  clear h
  go_enter Try.func160, Try.ntmps160
  go_wp2
  go_loopw [5, 8] (fun _ i wr => ∃ j : Nat, j ≤ xs.length ∧ i = .int .i64 j ∧ Hid (noCross xs j) ∧ Hid (Up w wr)) (fun _ i _ => xs.length - (intOf i).toNat)
  case atStart => exact ⟨0, by omega, rfl, noCross.start xs, Chg.refl _ _⟩
  case round =>
    obtain ⟨j, hj, rfl, hs, hu⟩ := hrel
    by_cases hlt : j < xs.length
    · skip
      obtain ⟨b, o, c', he1, -, -, hc⟩ := (H.out.up hu.out).at_ hlt
      obtain ⟨rfl, rfl⟩ : A = some ⟨b, o, none⟩ ∧ c = c' := by simpa using he1
      have f0 := (hc 0 _ rfl).1
      have f1 := (hc 1 _ rfl).1
      have f2 := (hc 2 _ rfl).1
      have f3 := (hc 3 _ rfl).1
      have f4 := (hc 4 _ rfl).1
      have f5 := (hc 5 _ rfl).1
      rw [Nat.add_zero] at f0
      clear hc he1
      cases hk : (xs[j].kind == 1) with
      | true =>
        have HK := Lib.hid hk
        have HB := Lib.hid (cross_at hlt hk)
        clear hk
        go_wp2_with fail
        refine (callB (isCross_any _ xs[j]) HK.out).mono ?_
        rintro e w1 ⟨rfl, g1⟩
        have G1 := Lib.hid (show Up wr _ from Chg.trans (by repeat (first | exact Chg.refl _ _ | apply Chg.drew | apply Chg.drewN | refine Chg.alloc ?_ _)) g1)
        clear f0 f1 f2 f3 f4 f5 g1
        go_wp2
        go_ret
        exact ⟨j, by rw [HB.out]; exact decide_eq_true (by omega), rfl, Chg.trans hu.out G1.out⟩
      | false =>
        have HK := Lib.hid hk
        clear hk
        go_wp2_with fail
        refine (callB (isCross_any _ xs[j]) HK.out).mono ?_
        rintro e w1 ⟨rfl, g1⟩
        have G1 := Lib.hid (show Up wr _ from Chg.trans (by repeat (first | exact Chg.refl _ _ | apply Chg.drew | apply Chg.drewN | refine Chg.alloc ?_ _)) g1)
        clear f0 f1 f2 f3 f4 f5 g1
        go_wp2
        go_roundw
        case rel => exact ⟨j + 1, by omega, by go_num, Lib.hid (hs.out.next hlt HK.out), Lib.hid (Chg.trans hu.out G1.out)⟩
        case measure => first | (simp [intOf]; done) | (simp [intOf]; omega)
    · obtain rfl : j = xs.length := by omega
      have HB := Lib.hid hs.out.all
      go_wp2
      go_ret
      exact ⟨-1, by rw [HB.out]; exact decide_eq_false (by omega), rfl, hu.out⟩
theorem crossHas_any (w : World) (S : Nat → Prop) (v : Value) (xs : List EvM) (h : Evs w S v xs) :
    Calls Try.prog 94 #[v, .func (.func 95) #[] #[]] w fun e w' => e = .returned (.bool (crossB xs)) ∧ Up w w' := by
  obtain ⟨A, c, rfl, hlc, hcm, -⟩ := h.shape
  have H := Lib.hid h
  clear h
  go_enter Try.func94, Try.ntmps94
  go_wp2_with fail
  refine (crossIdx_any _ _ _ _ H.out).mono ?_
  rintro e w1 ⟨n, hn, rfl, g1⟩
  have HN := Lib.hid hn
  have G1 := Lib.hid g1
  clear hn g1
  go_wp2
  go_ret
  exact ⟨ret_bool HN.out, G1.out⟩
end Go.Proofs.Ytjgdcjhmfbefdaa
