/- The program's ValidPlaces answers as the reference's, for every list. No condition. -/
import Derived.Test.YtnfjflbndpelgaaPlaces
namespace Go.Proofs.Ytnfjflbndpelgaa
open Go.ChangeShapes Go.WideShapes Go.ChangeAt Go.RowKit
namespace fnExactValidPlaces
theorem spec_any (w : World) (S : Nat → Prop) (v : Value) (xs : List Int) (h : Ints w S v xs) :
    Calls Try.prog 15 #[v] w fun e w' => e = .returned (.bool (placesB false xs)) ∧ Drawn w w' := by
  go_enter Try.func15, Try.ntmps15
  go_wp2_with fail
  refine (l21Places_any _ S _ xs _ h).mono ?_
  rintro e w1 ⟨rfl, h1⟩
  go_wp2
  go_ret
  exact ⟨rfl, h1⟩
theorem walk (w : World) (v : Value) (xs : List Int) (h : Ints w (fun b => b < w.heap.size) v xs) :
    Calls Try.prog 6 #[v] w fun e w' => e = .returned (.bool true) ∧ Below w.heap.size w w' := by
  obtain ⟨A, c, hv, hr⟩ := h
  subst hv
  have h : Ints w (fun b => b < w.heap.size) (.slice A xs.length c) xs := ⟨A, c, rfl, hr⟩
  obtain ⟨hlc, hcm, -, -⟩ := hr
  have H := Lib.hid h
  clear h
  by_cases hbig : xs.length ≤ 1048576
  · go_enter Try.func6, Try.ntmps6
    go_wp2_with fail
    refine (toInt64S_copy _ _ _ xs (by omega) H.out).mono ?_
    rintro e w1 ⟨u1, rfl, k1, g1⟩
    have K1 := Lib.hid k1
    have G1 := Lib.hid g1
    clear k1 g1
    go_wp2_with fail
    refine (spec_any _ _ _ xs K1.out).mono ?_
    rintro e w2 ⟨rfl, g2⟩
    have G2 := Lib.hid g2
    clear g2
    go_wp2_with fail
    refine (toInt64S_copy _ _ _ xs (by omega) ((H.out.up G1.out).up G2.out.up)).mono ?_
    rintro e w3 ⟨u3, rfl, k3, g3⟩
    have K3 := Lib.hid k3
    have G3 := Lib.hid g3
    clear k3 g3
    go_wp2_with fail
    refine (ValidPlaces_any _ _ _ xs K3.out).mono ?_
    rintro e w4 ⟨rfl, rfl⟩
    go_wp2_with fail
    refine (toInt64S_copy _ _ _ xs (by omega) (((H.out.up G1.out).up G2.out.up).up G3.out)).mono ?_
    rintro e w4 ⟨u4, rfl, k4, g4⟩
    have K4 := Lib.hid k4
    have G4 := Lib.hid g4
    clear k4 g4
    go_wp2_with fail
    refine (eqInt64S_same _ _ _ _ _ xs (K3.out.up G4.out) K4.out).mono ?_
    rintro e w5 ⟨rfl, g5⟩
    have G5 := Lib.hid g5
    clear g5
    go_wp2
    go_ret
    exact ⟨rfl, Up.below ((((G1.out.trans G2.out.up).trans G3.out).trans G4.out).trans G5.out.up)⟩
  · go_enter Try.func6, Try.ntmps6
    go_wp2
    go_ret
    exact ⟨rfl, Below.refl _ _⟩
end fnExactValidPlaces
end Go.Proofs.Ytnfjflbndpelgaa
namespace Go.Proofs.Ytnfjflbndpelgaa.fnExactValidPlaces
open Go.ChangeShapes Go.WideShapes Go.ChangeAt Go.RowKit
set_option linter.unusedVariables false
theorem own : ownKnob Try.prog.godebug = none := by kernel_rfl
theorem laidOut : laidOutB Try.prog = true := by kernel_rfl
theorem readable : ∀ t ∈ Try.f6.params.toList, Try.prog.readableRec t = true ∧ t < Try.prog.types.size := by
  have h : (Try.f6.params.toList.all fun t => Try.prog.readableRec t && decide (t < Try.prog.types.size)) = true := by kernel_rfl
  intro t ht
  have h2 := List.all_eq_true.1 h t ht
  rw [Bool.and_eq_true, decide_eq_true_eq] at h2
  exact h2
theorem resT : Try.f6.resultTypes = #[4] := by kernel_rfl
set_option maxRecDepth 100000 in
theorem lifted (os : Os) (started : os.Started) (H : Type) (enc : TypeId × Value → H) :
    ReturnsInHanded {} Try.checked os 6 .any (Rows.fnExactValidPlacesSpec.pre6 enc Try.prog Try.f6 Rows.fnExactValidPlacesRow.domain false) (Rows.fnExactValidPlacesSpec.post enc Try.prog Try.f6 false true false false) := by
  refine returnsInHanded_of_change (C := Try.checked) own started (by kernel_rfl) Try.func6
    (ChangeSpec.witness6 (enc := enc) (C := Try.checked) false ⟨#[], #[.slice none 0 0], []⟩ 8 (by kernel_rfl) (by kernel_rfl) (by kernel_rfl) (by kernel_rfl)) ?_
  intro W base args ds gs before hval0 hW hcnd _
  have hval : ∀ (j : Nat) t v, Try.f6.params[j]? = some t → args[j]? = some v → Value.okWide Try.prog W .any base t v := hval0
  have hW' := hW
  obtain ⟨p, q, hA0, hV, rfl, hfz, hnd⟩ := hW
  have hA : DataW.TrodAll enc Try.prog W 0 (fun _ => true) true Try.f6.params.toList args.toList ds p := hA0
  rw [Try.params6] at hA hval
  obtain ⟨v0, vs0, d0, ds0, p0, q0, hargs, rfl, rfl, h0, r0⟩ := trodAll_cons hA
  obtain ⟨rfl, rfl, rfl⟩ := trodAll_nil r0
  obtain rfl : args = #[v0] := by cases args; simp_all
  obtain ⟨rfl, rfl⟩ := trodVars_none hV
  have hpost : ∀ W', Below W.heap.size W W' → Rows.fnExactValidPlacesSpec.post enc Try.prog Try.f6 false true false false W #[v0] (.bool true) W' := fun W' hb =>
    law_post laidOut readable resT Try.underlying4 rfl rfl hW' hb
  have hz : ∀ b off, MemPlace.cell b off ∈ p0 ++ [] → W.frozen? ⟨b, off, none⟩ = false := fun b off hm => hfz b off (by simpa using hm)
  clear hW' hA0 hval0 hcnd hnd hV hA
  obtain ⟨xs0, hs0⟩ := open_Ints Try.underlying26 Try.underlying2 (by kernel_rfl) (hval 0 26 v0 rfl rfl) h0 (fun b off hm => hz b off (by simp [hm]))
  refine (walk W v0 xs0 hs0).mono fun e W' ⟨he, hg⟩ => ?_
  subst he
  exact ⟨_, rfl, hpost W' hg⟩
theorem over : Rows.fnExactValidPlacesRow.holds Try.pinned (OpenSpec.ofChange Rows.fnExactValidPlacesSpec) :=
  OpenClaim.holds_of_wide 6 Try.f6 rfl rfl rfl rfl rfl rfl rfl ⟨rfl, rfl, rfl, rfl, rfl⟩ rfl rfl rfl rfl rfl (by kernel_rfl) Try.func6 (by kernel_rfl)
    (of_decide_eq_true (by kernel_rfl)) (by unfold Func.isWrapper; first | (rw [if_pos (by decide +kernel)]; kernel_rfl) | (rw [if_neg (by decide +kernel)]; exact ⟨rfl, rfl⟩))
    (fun os started H enc _ => lifted os started H enc)
theorem proved : Rows.FnExactValidPlacesSaid :=
  over
end Go.Proofs.Ytnfjflbndpelgaa.fnExactValidPlaces
