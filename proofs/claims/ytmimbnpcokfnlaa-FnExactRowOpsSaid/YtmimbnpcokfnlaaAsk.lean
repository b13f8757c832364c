/- The reference's question, whether columns can be moved. No condition. -/
import Derived.Test.YtmimbnpcokfnlaaPlan2
namespace Go.Proofs.Ytmimbnpcokfnlaa
open Go.ChangeShapes Go.WideShapes Go.ChangeAt Go.RowKit
set_option maxHeartbeats 4000000 in
theorem l21Ask_any (w : World) (S T : Nat → Prop) (v u : Value) (xs ys : List Int) (h : Ints w S v xs) (h2 : Ints w T u ys) :
    Calls Try.prog 219 #[v, u] w fun e w' => e = .returned (.int .i64 (planCode xs ys)) ∧ Drawn w w' := by
  obtain ⟨A, c, rfl, hlc, hcm, -⟩ := h.shape
  obtain ⟨A2, c2, rfl, hlc2, hcm2, -⟩ := h2.shape
  have H := Lib.hid h
  have H2 := Lib.hid h2
  clear h h2
  by_cases hp1 : placesB false xs = true
  rotate_left
  · have hp1' := Bool.eq_false_iff.2 hp1
    have HC := Lib.hid (planCode_1 (ys := ys) (.inl hp1'))
    have HP1 := Lib.hid hp1'
    clear hp1 hp1'
    rw [HC.out]
    go_enter Try.func219, Try.ntmps219
    go_wp2_with fail
    refine (l21Places_any _ S _ xs _ H.out).mono ?_
    rintro e w1 ⟨rfl, g1⟩
    rw [HP1.out]
    go_wp2
    go_ret
    exact ⟨rfl, g1⟩
  have HP1 := Lib.hid hp1
  clear hp1
  by_cases hp2 : placesB true ys = true
  rotate_left
  · have hp2' := Bool.eq_false_iff.2 hp2
    have HC := Lib.hid (planCode_1 (xs := xs) (.inr (.inl hp2')))
    have HP2 := Lib.hid hp2'
    clear hp2 hp2'
    rw [HC.out]
    go_enter Try.func219, Try.ntmps219
    go_wp2_with fail
    refine (l21Places_any _ S _ xs _ H.out).mono ?_
    rintro e w1 ⟨rfl, g1⟩
    rw [HP1.out]
    go_wp2_with fail
    refine (l21Places_any _ T _ ys _ (H2.out.up g1.up)).mono ?_
    rintro e w2 ⟨rfl, g2⟩
    rw [HP2.out]
    go_wp2
    go_ret
    exact ⟨rfl, g1.trans g2⟩
  have HP2 := Lib.hid hp2
  clear hp2
  by_cases hln : xs.length = ys.length
  rotate_left
  · have HC := Lib.hid (planCode_1 (xs := xs) (ys := ys) (.inr (.inr hln)))
    have hne : ((xs.length : Int) != ys.length) = true := by
      rw [bne_iff_ne]
      intro h
      exact hln (by omega)
    clear hln
    rw [HC.out]
    go_enter Try.func219, Try.ntmps219
    go_wp2_with fail
    refine (l21Places_any _ S _ xs _ H.out).mono ?_
    rintro e w1 ⟨rfl, g1⟩
    rw [HP1.out]
    go_wp2_with fail
    refine (l21Places_any _ T _ ys _ (H2.out.up g1.up)).mono ?_
    rintro e w2 ⟨rfl, g2⟩
    rw [HP2.out]
    go_wp2
    go_ret
    exact ⟨rfl, g1.trans g2⟩
  have hne : ((xs.length : Int) != ys.length) = false := by
    rw [bne_eq_false_iff_eq]
    omega
  have hy8 := places_short HP2.out
  have HLen := Lib.hid hln
  clear hln
  cases hgb : groupsB xs ys with
  | false =>
    have HC := Lib.hid (planCode_12 HP1.out HP2.out HLen.out hgb)
    have HGB := Lib.hid hgb
    clear hgb
    rw [HC.out]
    go_enter Try.func219, Try.ntmps219
    go_wp2_with fail
    refine (l21Places_any _ S _ xs _ H.out).mono ?_
    rintro e w1 ⟨rfl, g1⟩
    rw [HP1.out]
    go_wp2_with fail
    refine (l21Places_any _ T _ ys _ (H2.out.up g1.up)).mono ?_
    rintro e w2 ⟨rfl, g2⟩
    rw [HP2.out]
    go_wp2_with fail
    refine (l21Groups_any _ S T _ _ xs ys (H.out.up (g1.trans g2).up) (H2.out.up (g1.trans g2).up) HLen.out hy8).mono ?_
    rintro e w3 ⟨rfl, g3⟩
    rw [HGB.out]
    go_wp2
    go_ret
    exact ⟨rfl, (g1.trans g2).trans g3⟩
  | true =>
    have HC := Lib.hid (planCode_ok HP1.out HP2.out HLen.out hgb)
    have HGB := Lib.hid hgb
    clear hgb
    rw [HC.out]
    go_enter Try.func219, Try.ntmps219
    go_wp2_with fail
    refine (l21Places_any _ S _ xs _ H.out).mono ?_
    rintro e w1 ⟨rfl, g1⟩
    rw [HP1.out]
    go_wp2_with fail
    refine (l21Places_any _ T _ ys _ (H2.out.up g1.up)).mono ?_
    rintro e w2 ⟨rfl, g2⟩
    rw [HP2.out]
    go_wp2_with fail
    refine (l21Groups_any _ S T _ _ xs ys (H.out.up (g1.trans g2).up) (H2.out.up (g1.trans g2).up) HLen.out hy8).mono ?_
    rintro e w3 ⟨rfl, g3⟩
    rw [HGB.out]
    go_wp2
    go_ret
    exact ⟨rfl, (g1.trans g2).trans g3⟩
theorem planCode_zero {xs ys : List Int} (h : planCode xs ys = 0) : PlanOk xs ys := by
  unfold planCode at h
  split at h
  · rename_i hh
    exact planOk_of hh.1 hh.2.1 hh.2.2
  · omega
end Go.Proofs.Ytmimbnpcokfnlaa
