/- The laws' helpers on nested slices. No condition. The laws' helpers on nested slices. No condition. Plain words for the comparison of proofs: lists that agree up to a place. No condition. Comparisons of lists on both sides. No condition. Copies and appends of lists of numbers. No condition. Crossings of two blocks of strands, on both sides. No condition. Plain words for permutations, their descents and inverses, and for normal forms. No condition. slices.Reverse on numbers. No condition. -/
import Derived.Test.YtchfjglofmphfaaRB4
import Derived.Test.YtchfjglofmphfaaRB7
import Derived.Laws.AppendOwnNone
import Derived.RegionTactic
import Derived.ChangeAlike
section
set_option linter.unusedSimpArgs false
set_option linter.unusedVariables false
set_option maxRecDepth 100000
set_option maxHeartbeats 1000000
namespace Go.Proofs.Ytchfjglofmphfaa
open Go.ChangeShapes Go.WideShapes Go.ChangeAt Go.RowKit
def EvsE (L : Nat → Prop) (w : World) (vs : List Value) (x : List EvM) : Prop := ∃ A c, vs = [.slice A x.length c] ∧ Evs w L (.slice A x.length c) x ∧ x.length ≤ c ∧ c ≤ 9223372036854775807
theorem EvsE.val {L : Nat → Prop} {w : World} {vs : List Value} {x : List EvM} (h : EvsE L w vs x) : ∃ A c, vs = [.slice A x.length c] ∧ Evs w L (.slice A x.length c) x ∧ x.length ≤ c ∧ c ≤ 9223372036854775807 := h
theorem EvsE.keep {L T : Nat → Prop} {w w' : World} {vs : List Value} {x : List EvM} (h : EvsE L w vs x) (g : Chg T w w') (hd : ∀ b, b < w.heap.size → L b → ¬ T b) : EvsE L w' vs x := let ⟨A, c, h1, h2, h3⟩ := h; ⟨A, c, h1, h2.keep g hd, h3⟩
theorem EvsE.up {L : Nat → Prop} {w w' : World} {vs : List Value} {x : List EvM} (h : EvsE L w vs x) (g : Up w w') : EvsE L w' vs x := h.keep g fun _ _ _ h => h
theorem EvsE.mono {L T : Nat → Prop} {w : World} {vs : List Value} {x : List EvM} (h : EvsE L w vs x) (hs : ∀ b, b < w.heap.size → L b → T b) : EvsE T w vs x := let ⟨A, c, h1, h2, h3⟩ := h; ⟨A, c, h1, h2.mono hs, h3⟩
def EvSV (w : World) (M H L : Nat → Prop) (v : Value) (xs : List (List EvM)) : Prop := Nst 1 (EvsE L) w H v xs
theorem EvSV.keep {M H L T : Nat → Prop} {w w' : World} {v : Value} {xs : List (List EvM)} (h : EvSV w M H L v xs) (g : Chg T w w') (hd : ∀ b, M b ∨ H b ∨ L b → ¬ T b) : EvSV w' M H L v xs :=
  Nst.keep h (fun _ _ k => EvsE.keep k g (fun b _ h => hd b (.inr (.inr h)))) g (fun b _ h => hd b (.inr (.inl h)))
theorem EvSV.up {M H L : Nat → Prop} {w w' : World} {v : Value} {xs : List (List EvM)} (h : EvSV w M H L v xs) (g : Up w w') : EvSV w' M H L v xs := h.keep g fun _ _ h => h
theorem EvSV.mono {M H L M' H' L' : Nat → Prop} {w : World} {v : Value} {xs : List (List EvM)} (h : EvSV w M H L v xs) (hm : ∀ b, b < w.heap.size → M b → M' b) (hr : ∀ b, b < w.heap.size → H b → H' b) (hl : ∀ b, b < w.heap.size → L b → L' b) : EvSV w M' H' L' v xs :=
  Nst.mono h (fun _ _ k => EvsE.mono k hl) hr
theorem EvSV.shape {M H L : Nat → Prop} {w : World} {v : Value} {xs : List (List EvM)} (h : EvSV w M H L v xs) : ∃ A c, v = .slice A xs.length c ∧ xs.length ≤ c ∧ c ≤ 9223372036854775807 ∧ (A = none → c = 0) := Nst.shape h
theorem EvSV.at_ {M H L : Nat → Prop} {w : World} {v : Value} {xs : List (List EvM)} (h : EvSV w M H L v xs) {i : Nat} (hi : i < xs.length) : ∃ b o c vs, v = .slice (some ⟨b, o, none⟩) xs.length c ∧ H b ∧ b < w.heap.size ∧ vs.length = 1 ∧ EvsE L w vs xs[i] ∧
    ∀ j u, vs[j]? = some u → w.cell? ⟨b, o + i * 1 + j, none⟩ = some u ∧ w.frozen? ⟨b, o + i * 1 + j, none⟩ = false := Nst.at_ h hi
theorem infoEvSV : (Try.prog.info? 29).map (fun i => (i.zero, i.size, i.bytes)) = some (some (.slice none 0 0), 1, 24) := by kernel_rfl
theorem eqEvSV_same (w : World) (M H L M' H' L' : Nat → Prop) (v u : Value) (xs : List (List EvM)) (h : EvSV w M H L v xs) (h2 : EvSV w M' H' L' u xs) :
    Calls Try.prog 98 #[v, u] w fun e w' => e = .returned (.bool true) ∧ Up w w' := by
  obtain ⟨A, c, rfl, hlc, hcm, -⟩ := h.shape
  obtain ⟨A2, c2, rfl, hlc2, hcm2, -⟩ := h2.shape
  have H := Lib.hid h
  have H2 := Lib.hid h2
  clear h h2
  go_enter Try.func98, Try.ntmps98
  go_wp2
  go_loopw [5] (fun i wr => ∃ (j : Nat), j ≤ xs.length ∧ i = .int .i64 j ∧ Hid (Up w wr)) (fun i _ => xs.length - (intOf i).toNat)
  case atStart => exact ⟨0, by omega, rfl, Chg.refl _ _⟩
  case round =>
    obtain ⟨j, hj, rfl, hu⟩ := hrel
    by_cases hlt : j < xs.length
    · obtain ⟨b3, o3, c3', vs3, he3, -, -, -, hE3, hc3⟩ := (H.out.up hu.out).at_ hlt
      obtain ⟨rfl, rfl⟩ : A = some ⟨b3, o3, none⟩ ∧ c = c3' := by simpa using he3
      obtain ⟨A3, k3, rfl, hv3, -⟩ := EvsE.val hE3
      have f0 := (hc3 0 _ rfl).1
      simp only [Nat.mul_one, Nat.add_zero] at f0
      have HV3 := Lib.hid hv3
      clear hc3 hv3 he3
      obtain ⟨b5, o5, c5', vs5, he5, -, -, -, hE5, hc5⟩ := (H2.out.up hu.out).at_ hlt
      obtain ⟨rfl, rfl⟩ : A2 = some ⟨b5, o5, none⟩ ∧ c2 = c5' := by simpa using he5
      obtain ⟨A5, k5, rfl, hv5, -⟩ := EvsE.val hE5
      have e0 := (hc5 0 _ rfl).1
      simp only [Nat.mul_one, Nat.add_zero] at e0
      have HV5 := Lib.hid hv5
      clear hc5 hv5 he5
      go_wp2
      have qf0 := up_cell f0
      have qe0 := up_cell e0
      clear f0 e0
      refine wp_region_up (by kernel_rfl) (by kernel_rfl) ?_
      repeat (go_big_quiet_step (first | (go_at_call 11; with_reducible exact calls_up (eqEvs _ _ _ _ _ _ (HV3.out.up (UpOf.up _)) (HV5.out.up (UpOf.up _))))))
      refine wpQuiet_nil ?_
      rintro _ ⟨u, rfl⟩
      go_wp2
      go_roundw
      case rel => exact ⟨j + 1, by omega, by go_num, Lib.hid (Chg.trans hu.out u.up)⟩
      case measure => first | (simp [intOf]; done) | (simp [intOf]; omega)
    · obtain rfl : j = xs.length := by omega
      go_wp2
      go_ret
      exact ⟨rfl, hu.out⟩
end Go.Proofs.Ytchfjglofmphfaa
end
section
set_option linter.unusedSimpArgs false
set_option linter.unusedVariables false
set_option maxRecDepth 100000
set_option maxHeartbeats 1000000
namespace Go.Proofs.Ytchfjglofmphfaa
open Go.ChangeShapes Go.WideShapes Go.ChangeAt Go.RowKit
structure ProofM where
  forms : List NormM
  sts : List (List EvM)
def ProofE (M H L : Nat → Prop) (w : World) (vs : List Value) (x : ProofM) : Prop := ∃ A0 c0 A1 c1, vs = [.slice A0 x.forms.length c0, .slice A1 x.sts.length c1] ∧ NormSV w M H L (.slice A0 x.forms.length c0) x.forms ∧ EvSV w M H L (.slice A1 x.sts.length c1) x.sts ∧ (x.forms.length ≤ c0 ∧ c0 ≤ 9223372036854775807) ∧ (x.sts.length ≤ c1 ∧ c1 ≤ 9223372036854775807)
theorem ProofE.keep {M H L T : Nat → Prop} {w w' : World} {vs : List Value} {x : ProofM} (h : ProofE M H L w vs x) (g : Chg T w w') (hd : ∀ b, M b ∨ H b ∨ L b → ¬ T b) : ProofE M H L w' vs x := let ⟨A0, c0, A1, c1, he, h0, h1, h2, h3⟩ := h; ⟨A0, c0, A1, c1, he, h0.keep g hd, h1.keep g hd, h2, h3⟩
theorem ProofE.up {M H L : Nat → Prop} {w w' : World} {vs : List Value} {x : ProofM} (h : ProofE M H L w vs x) (g : Up w w') : ProofE M H L w' vs x := h.keep g fun _ _ h => h
theorem ProofE.mono {M H L M' H' L' : Nat → Prop} {w : World} {vs : List Value} {x : ProofM} (h : ProofE M H L w vs x) (hm : ∀ b, b < w.heap.size → M b → M' b) (hr : ∀ b, b < w.heap.size → H b → H' b) (hl : ∀ b, b < w.heap.size → L b → L' b) : ProofE M' H' L' w vs x := let ⟨A0, c0, A1, c1, he, h0, h1, h2, h3⟩ := h; ⟨A0, c0, A1, c1, he, h0.mono hm hr hl, h1.mono hm hr hl, h2, h3⟩
def ProofV (w : World) (M H L : Nat → Prop) (v : Value) (x : ProofM) : Prop := ∃ A0 c0 A1 c1, v = .agg #[.slice A0 x.forms.length c0, .slice A1 x.sts.length c1] ∧ NormSV w M H L (.slice A0 x.forms.length c0) x.forms ∧ EvSV w M H L (.slice A1 x.sts.length c1) x.sts ∧ (x.forms.length ≤ c0 ∧ c0 ≤ 9223372036854775807) ∧ (x.sts.length ≤ c1 ∧ c1 ≤ 9223372036854775807)
theorem ProofV.keep {M H L T : Nat → Prop} {w w' : World} {v : Value} {x : ProofM} (h : ProofV w M H L v x) (g : Chg T w w') (hd : ∀ b, M b ∨ H b ∨ L b → ¬ T b) : ProofV w' M H L v x := let ⟨A0, c0, A1, c1, he, h0, h1, h2, h3⟩ := h; ⟨A0, c0, A1, c1, he, h0.keep g hd, h1.keep g hd, h2, h3⟩
theorem ProofV.up {M H L : Nat → Prop} {w w' : World} {v : Value} {x : ProofM} (h : ProofV w M H L v x) (g : Up w w') : ProofV w' M H L v x := h.keep g fun _ _ h => h
theorem ProofV.mono {M H L M' H' L' : Nat → Prop} {w : World} {v : Value} {x : ProofM} (h : ProofV w M H L v x) (hm : ∀ b, b < w.heap.size → M b → M' b) (hr : ∀ b, b < w.heap.size → H b → H' b) (hl : ∀ b, b < w.heap.size → L b → L' b) : ProofV w M' H' L' v x := let ⟨A0, c0, A1, c1, he, h0, h1, h2, h3⟩ := h; ⟨A0, c0, A1, c1, he, h0.mono hm hr hl, h1.mono hm hr hl, h2, h3⟩
theorem ProofE.val {M H L : Nat → Prop} {w : World} {vs : List Value} {x : ProofM} (h : ProofE M H L w vs x) : ∃ A0 c0 A1 c1, vs = [.slice A0 x.forms.length c0, .slice A1 x.sts.length c1] ∧ ProofV w M H L (.agg #[.slice A0 x.forms.length c0, .slice A1 x.sts.length c1]) x :=
  let ⟨A0, c0, A1, c1, he, h0, h1, h2, h3⟩ := h; ⟨A0, c0, A1, c1, he, A0, c0, A1, c1, rfl, h0, h1, h2, h3⟩
theorem ProofV.val {M H L : Nat → Prop} {w : World} {v : Value} {x : ProofM} (h : ProofV w M H L v x) : ∃ A0 c0 A1 c1, v = .agg #[.slice A0 x.forms.length c0, .slice A1 x.sts.length c1] ∧ ProofV w M H L (.agg #[.slice A0 x.forms.length c0, .slice A1 x.sts.length c1]) x := by
  obtain ⟨A0, c0, A1, c1, rfl, h0, h1, h2, h3⟩ := h
  exact ⟨_, _, _, _, rfl, _, _, _, _, rfl, h0, h1, h2, h3⟩
theorem ProofV.parts {M H L : Nat → Prop} {w : World} {v : Value} {x : ProofM} (h : ProofV w M H L v x) : ∃ A0 c0 A1 c1, v = .agg #[.slice A0 x.forms.length c0, .slice A1 x.sts.length c1] ∧ NormSV w M H L (.slice A0 x.forms.length c0) x.forms ∧ EvSV w M H L (.slice A1 x.sts.length c1) x.sts ∧ (x.forms.length ≤ c0 ∧ c0 ≤ 9223372036854775807) ∧ (x.sts.length ≤ c1 ∧ c1 ≤ 9223372036854775807) := h
theorem ProofE.mk {M H L : Nat → Prop} {w : World} {x : ProofM} {B0 B1 : Option Addr} {d0 d1 : Nat} (h : ProofV w M H L (.agg #[.slice B0 x.forms.length d0, .slice B1 x.sts.length d1]) x) : ProofE M H L w [.slice B0 x.forms.length d0, .slice B1 x.sts.length d1] x := by
  obtain ⟨A0, c0, A1, c1, he, h0, h1, h2, h3⟩ := h
  simp only [Value.agg.injEq, Array.mk.injEq, List.cons.injEq, Value.slice.injEq, true_and, and_true] at he
  obtain ⟨⟨rfl, rfl⟩, ⟨rfl, rfl⟩⟩ := he
  exact ⟨_, _, _, _, rfl, h0, h1, h2, h3⟩
theorem eqProof_same (w : World) (M H L M' H' L' : Nat → Prop) (v u : Value) (x : ProofM) (hv : ProofV w M H L v x) (hu : ProofV w M' H' L' u x) :
    Calls Try.prog 39 #[v, u] w fun e w' => e = .returned (.bool true) ∧ Up w w' := by
  obtain ⟨A0, c0, A1, c1, rfl, h0, h1, h2, h3⟩ := hv
  obtain ⟨B0, d0, B1, d1, rfl, g0, g1, g2, g3⟩ := hu
  have U0 := Lib.hid (show Up w ((w.alloc (.cells #[.slice A0 x.forms.length c0, .slice A1 x.sts.length c1] 84)).alloc (.cells #[.slice B0 x.forms.length d0, .slice B1 x.sts.length d1] 84)) from (by repeat (first | exact Chg.refl _ _ | apply Chg.drew | apply Chg.drewN | refine Chg.alloc ?_ _)))
  have H0 := Lib.hid (h0.up U0.out)
  have G0 := Lib.hid (g0.up U0.out)
  have H1 := Lib.hid (h1.up U0.out)
  have G1 := Lib.hid (g1.up U0.out)
  clear h0 h1 h2 h3 g0 g1 g2 g3
  have q0 := Chg.cell ((Chg.refl Nowhere (w.alloc (.cells #[.slice A0 x.forms.length c0, .slice A1 x.sts.length c1] 84))).alloc (.cells #[.slice B0 x.forms.length d0, .slice B1 x.sts.length d1] 84)) (show (w.alloc (.cells #[.slice A0 x.forms.length c0, .slice A1 x.sts.length c1] 84)).cell? ⟨w.heap.size, 0, none⟩ = some (.slice A0 x.forms.length c0) from cell_new _ _ _ _) id
  have q1 := Chg.cell ((Chg.refl Nowhere (w.alloc (.cells #[.slice A0 x.forms.length c0, .slice A1 x.sts.length c1] 84))).alloc (.cells #[.slice B0 x.forms.length d0, .slice B1 x.sts.length d1] 84)) (show (w.alloc (.cells #[.slice A0 x.forms.length c0, .slice A1 x.sts.length c1] 84)).cell? ⟨w.heap.size, 1, none⟩ = some (.slice A1 x.sts.length c1) from cell_new _ _ _ _) id
  have p0 := (show ((w.alloc (.cells #[.slice A0 x.forms.length c0, .slice A1 x.sts.length c1] 84)).alloc (.cells #[.slice B0 x.forms.length d0, .slice B1 x.sts.length d1] 84)).cell? ⟨w.heap.size + 1, 0, none⟩ = some (.slice B0 x.forms.length d0) from (cellF_at (by simp) rfl).1)
  have p1 := (show ((w.alloc (.cells #[.slice A0 x.forms.length c0, .slice A1 x.sts.length c1] 84)).alloc (.cells #[.slice B0 x.forms.length d0, .slice B1 x.sts.length d1] 84)).cell? ⟨w.heap.size + 1, 1, none⟩ = some (.slice B1 x.sts.length d1) from (cellF_at (by simp) rfl).1)
  go_enter Try.func39, Try.ntmps39
  go_wp2_with fail
  refine (eqNormSV_same _ M H L M' H' L' _ _ x.forms (H0.out.up (by repeat (first | exact Chg.refl _ _ | apply Chg.drew | apply Chg.drewN | refine Chg.alloc ?_ _))) (G0.out.up (by repeat (first | exact Chg.refl _ _ | apply Chg.drew | apply Chg.drewN | refine Chg.alloc ?_ _)))).mono ?_
  rintro e w1 ⟨rfl, g1⟩
  have GX := Lib.hid (Chg.trans (by repeat (first | exact Chg.refl _ _ | apply Chg.drew | apply Chg.drewN | refine Chg.alloc ?_ _)) g1)
  clear g1
  have U1 := Lib.hid (Chg.trans U0.out GX.out)
  clear U0
  have H1 := Lib.hid (H1.out.up GX.out)
  have G1 := Lib.hid (G1.out.up GX.out)
  have q0 := Chg.cell GX.out q0 id
  have p0 := Chg.cell GX.out p0 id
  have q1 := Chg.cell GX.out q1 id
  have p1 := Chg.cell GX.out p1 id
  clear GX
  go_wp2_with fail
  refine (eqEvSV_same _ M H L M' H' L' _ _ x.sts (H1.out.up (by repeat (first | exact Chg.refl _ _ | apply Chg.drew | apply Chg.drewN | refine Chg.alloc ?_ _))) (G1.out.up (by repeat (first | exact Chg.refl _ _ | apply Chg.drew | apply Chg.drewN | refine Chg.alloc ?_ _)))).mono ?_
  rintro e w2 ⟨rfl, g1⟩
  have GX := Lib.hid (Chg.trans (by repeat (first | exact Chg.refl _ _ | apply Chg.drew | apply Chg.drewN | refine Chg.alloc ?_ _)) g1)
  clear g1
  have U2 := Lib.hid (Chg.trans U1.out GX.out)
  clear U1
  have q0 := Chg.cell GX.out q0 id
  have p0 := Chg.cell GX.out p0 id
  have q1 := Chg.cell GX.out q1 id
  have p1 := Chg.cell GX.out p1 id
  clear GX
  go_wp2
  go_ret
  exact ⟨rfl, Chg.trans U2.out (by repeat (first | exact Chg.refl _ _ | apply Chg.drew | apply Chg.drewN | refine Chg.alloc ?_ _))⟩
end Go.Proofs.Ytchfjglofmphfaa
end
namespace Go.Proofs.Ytchfjglofmphfaa
theorem evM_eq {a b : EvM} : a = b ↔ a.kind = b.kind ∧ a.place = b.place ∧ a.count = b.count ∧ a.bed = b.bed ∧ a.car = b.car ∧ a.dir = b.dir := by
  cases a; cases b; simp
instance : DecidableEq EvM := fun _ _ => decidable_of_iff _ evM_eq.symm
theorem normM_eq {a b : NormM} : a = b ↔ a.n = b.n ∧ a.p = b.p ∧ a.fs = b.fs := by
  cases a; cases b; simp
instance : DecidableEq NormM := fun _ _ => decidable_of_iff _ normM_eq.symm
theorem proofM_eq {a b : ProofM} : a = b ↔ a.forms = b.forms ∧ a.sts = b.sts := by
  cases a; cases b; simp
instance : DecidableEq ProofM := fun _ _ => decidable_of_iff _ proofM_eq.symm
section
variable {α : Type}
def AgreeTo (xs ys : List α) (j : Nat) : Prop := ∀ i (h : i < xs.length) (h' : i < ys.length), i < j → xs[i] = ys[i]
theorem AgreeTo.start (xs ys : List α) : AgreeTo xs ys 0 := fun _ _ _ h => absurd h (Nat.not_lt_zero _)
theorem AgreeTo.next {xs ys : List α} {j : Nat} (h : AgreeTo xs ys j) (h1 : j < xs.length) (h2 : j < ys.length) (he : xs[j] = ys[j]) : AgreeTo xs ys (j + 1) := fun i a b c => by
  by_cases e : i = j
  · subst e
    exact he
  · exact h i a b (by omega)
theorem AgreeTo.all {xs ys : List α} (h : AgreeTo xs ys xs.length) (hl : xs.length = ys.length) : xs = ys :=
  List.ext_getElem hl fun i a b => h i a b a
theorem differ_at {xs ys : List α} {j : Nat} (h1 : j < xs.length) (h2 : j < ys.length) (he : xs[j] ≠ ys[j]) : xs ≠ ys := fun h => he (by subst h; rfl)
variable [DecidableEq α]
/-- whether two lists are the same -/
def sameL (xs ys : List α) : Bool := decide (xs = ys)
theorem sameL_all {xs ys : List α} (h : AgreeTo xs ys xs.length) (hl : xs.length = ys.length) : sameL xs ys = true := decide_eq_true (h.all hl)
theorem sameL_at {xs ys : List α} {j : Nat} (h1 : j < xs.length) (h2 : j < ys.length) (he : xs[j] ≠ ys[j]) : sameL xs ys = false := decide_eq_false (differ_at h1 h2 he)
theorem sameL_len {xs ys : List α} (h : xs.length ≠ ys.length) : sameL xs ys = false := decide_eq_false fun e => h (by rw [e])
end
def sameN (a b : NormM) : Bool := decide (a = b)
def sameP (a b : ProofM) : Bool := decide (a = b)
theorem sameN_and (a b : NormM) : sameN a b = (decide (a.n = b.n) && (decide (a.p = b.p) && sameL a.fs b.fs)) := by
  unfold sameN sameL
  rw [Bool.eq_iff_iff, decide_eq_true_eq, normM_eq, Bool.and_eq_true, Bool.and_eq_true]
  simp
theorem sameP_and (a b : ProofM) : sameP a b = (sameL a.forms b.forms && sameL a.sts b.sts) := by
  unfold sameP sameL
  rw [Bool.eq_iff_iff, decide_eq_true_eq, proofM_eq, Bool.and_eq_true]
  simp
end Go.Proofs.Ytchfjglofmphfaa
section
set_option linter.unusedSimpArgs false
set_option linter.unusedVariables false
set_option maxRecDepth 100000
set_option maxHeartbeats 1000000
namespace Go.Proofs.Ytchfjglofmphfaa
open Go.ChangeShapes Go.WideShapes Go.ChangeAt Go.RowKit
theorem l00Same_any (w : World) (S S' : Nat → Prop) (v u : Value) (xs ys : List Int) (h : Ints w S v xs) (h2 : Ints w S' u ys) :
    Calls Try.prog 231 #[v, u] w fun e w' => e = .returned (.bool (sameL xs ys)) ∧ Up w w' := by
  obtain ⟨A, c, rfl, hlc, hcm, -⟩ := h.shape
  obtain ⟨A2, c2, rfl, hlc2, hcm2, -⟩ := h2.shape
  by_cases hl : xs.length = ys.length
  rotate_left
  · have HB := Lib.hid (sameL_len hl)
    have hb : ((xs.length : Int) != ys.length) = true := by simp; omega
    clear hl h h2
    go_enter Try.func231, Try.ntmps231
    go_wp2
    go_ret
    exact ⟨ret_bool HB.out.symm, Chg.refl _ _⟩
  have HL := Lib.hid hl
  have hb : ((xs.length : Int) != ys.length) = false := by simp; omega
  have H := Lib.hid h
  have H2 := Lib.hid h2
  clear h h2 hl
  go_enter Try.func231, Try.ntmps231
  go_wp2
  go_loopw [5] (fun i wr => ∃ (j : Nat), j ≤ xs.length ∧ i = .int .i64 j ∧ Hid (Up w wr) ∧ Hid (AgreeTo xs ys j)) (fun i _ => xs.length - (intOf i).toNat)
  case atStart => exact ⟨0, by omega, rfl, Chg.refl _ _, AgreeTo.start _ _⟩
  case round =>
    obtain ⟨j, hj, rfl, hu, hp⟩ := hrel
    by_cases hlt : j < xs.length
    · have hlt2 : j < ys.length := by have := HL.out; omega
      obtain ⟨b, o, rfl, -, hc⟩ := (H.out.up hu.out).ix hlt
      obtain ⟨b2, o2, rfl, -, hc2⟩ := (H2.out.up hu.out).ix hlt2
      have f0 := hc j hlt
      have e0 := hc2 j hlt2
      rw [ix_eq hlt] at f0
      rw [ix_eq hlt2] at e0
      clear hc hc2
      by_cases he : xs[j] = ys[j]
      · have HE := Lib.hid he
        have hbb : ((xs[j] : Int) != ys[j]) = false := by simp [he]
        clear he
        go_wp2
        go_quiet (fail)
        go_wp2
        go_roundw
        case rel => exact ⟨j + 1, by omega, by go_num, Lib.hid (Chg.trans hu.out (by repeat (first | exact Chg.refl _ _ | apply Chg.drew | apply Chg.drewN | refine Chg.alloc ?_ _))), Lib.hid (AgreeTo.next hp.out hlt hlt2 HE.out)⟩
        case measure => first | (simp [intOf]; done) | (simp [intOf]; omega)
      · have HB := Lib.hid (sameL_at hlt hlt2 he)
        have hbb : ((xs[j] : Int) != ys[j]) = true := by simpa using he
        clear he
        go_wp2
        go_quiet (fail)
        go_wp2
        go_ret
        exact ⟨ret_bool HB.out.symm, Chg.trans hu.out (by repeat (first | exact Chg.refl _ _ | apply Chg.drew | apply Chg.drewN | refine Chg.alloc ?_ _))⟩
    · obtain rfl : j = xs.length := by omega
      have HB := Lib.hid (sameL_all hp.out HL.out)
      go_wp2
      go_ret
      exact ⟨ret_bool HB.out.symm, hu.out⟩
theorem equalInts_any (w : World) (S S' : Nat → Prop) (v u : Value) (xs ys : List Int) (h : Ints w S v xs) (h2 : Ints w S' u ys) :
    Calls Try.prog 213 #[v, u] w fun e w' => e = .returned (.bool (sameL xs ys)) ∧ Up w w' := by
  obtain ⟨A, c, rfl, hlc, hcm, -⟩ := h.shape
  obtain ⟨A2, c2, rfl, hlc2, hcm2, -⟩ := h2.shape
  by_cases hl : xs.length = ys.length
  rotate_left
  · have HB := Lib.hid (sameL_len hl)
    have hb : ((xs.length : Int) != ys.length) = true := by simp; omega
    clear hl h h2
    go_enter Try.func213, Try.ntmps213
    go_wp2
    go_ret
    exact ⟨ret_bool HB.out.symm, Chg.refl _ _⟩
  have HL := Lib.hid hl
  have hb : ((xs.length : Int) != ys.length) = false := by simp; omega
  have H := Lib.hid h
  have H2 := Lib.hid h2
  clear h h2 hl
  go_enter Try.func213, Try.ntmps213
  go_wp2
  go_loopw [5, 13] (fun _ i wr => ∃ (j : Nat), j ≤ xs.length ∧ i = .int .i64 j ∧ Hid (Up w wr) ∧ Hid (AgreeTo xs ys j)) (fun _ i _ => xs.length - (intOf i).toNat)
  case atStart => exact ⟨0, by omega, rfl, Chg.refl _ _, AgreeTo.start _ _⟩
  case round =>
    obtain ⟨j, hj, rfl, hu, hp⟩ := hrel
    by_cases hlt : j < xs.length
    · have hlt2 : j < ys.length := by have := HL.out; omega
      obtain ⟨b, o, rfl, -, hc⟩ := (H.out.up hu.out).ix hlt
      obtain ⟨b2, o2, rfl, -, hc2⟩ := (H2.out.up hu.out).ix hlt2
      have f0 := hc j hlt
      have e0 := hc2 j hlt2
      rw [ix_eq hlt] at f0
      rw [ix_eq hlt2] at e0
      clear hc hc2
      by_cases he : xs[j] = ys[j]
      · have HE := Lib.hid he
        have hbb : ((xs[j] : Int) != ys[j]) = false := by simp [he]
        clear he
        go_wp2
        go_quiet (fail)
        go_wp2
        go_roundw
        case rel => exact ⟨j + 1, by omega, by go_num, Lib.hid (Chg.trans hu.out (by repeat (first | exact Chg.refl _ _ | apply Chg.drew | apply Chg.drewN | refine Chg.alloc ?_ _))), Lib.hid (AgreeTo.next hp.out hlt hlt2 HE.out)⟩
        case measure => first | (simp [intOf]; done) | (simp [intOf]; omega)
      · have HB := Lib.hid (sameL_at hlt hlt2 he)
        have hbb : ((xs[j] : Int) != ys[j]) = true := by simpa using he
        clear he
        go_wp2
        go_quiet (fail)
        go_wp2
        go_ret
        exact ⟨ret_bool HB.out.symm, Chg.trans hu.out (by repeat (first | exact Chg.refl _ _ | apply Chg.drew | apply Chg.drewN | refine Chg.alloc ?_ _))⟩
    · obtain rfl : j = xs.length := by omega
      have HB := Lib.hid (sameL_all hp.out HL.out)
      go_wp2
      go_ret
      exact ⟨ret_bool HB.out.symm, hu.out⟩
theorem evEq_and (x y : EvM) : decide (x = y) = (decide (x.kind = y.kind) && (decide (x.place = y.place) && (decide (x.count = y.count) && (decide (x.bed = y.bed) && (decide (x.car = y.car) && decide (x.dir = y.dir)))))) := by
  rw [Bool.eq_iff_iff, decide_eq_true_eq, evM_eq]
  simp
theorem evNeq (w : World) (x y : EvM) : (binOp .neq 114 x.val y.val).run Try.prog w = .ok (.bool (!decide (x = y))) w := by
  rw [evEq_and, run_neq_struct]
  by_cases h0 : x.kind = y.kind
  rotate_left
  · simp [go_sem, Program.fieldsOf, Try.underlying114, Op.eqFields, h0]
  by_cases h1 : x.place = y.place
  rotate_left
  · simp [go_sem, Program.fieldsOf, Try.underlying114, Op.eqFields, h0, h1]
  by_cases h2 : x.count = y.count
  rotate_left
  · simp [go_sem, Program.fieldsOf, Try.underlying114, Op.eqFields, h0, h1, h2]
  by_cases h3 : x.bed = y.bed
  rotate_left
  · simp [go_sem, Program.fieldsOf, Try.underlying114, Op.eqFields, h0, h1, h2, h3]
  by_cases h4 : x.car = y.car
  rotate_left
  · simp [go_sem, Program.fieldsOf, Try.underlying114, Op.eqFields, h0, h1, h2, h3, h4]
  by_cases h5 : x.dir = y.dir
  rotate_left
  · simp [go_sem, Program.fieldsOf, Try.underlying114, Op.eqFields, h0, h1, h2, h3, h4, h5]
  simp [go_sem, Program.fieldsOf, Try.underlying114, Op.eqFields, h0, h1, h2, h3, h4, h5]
theorem evEq_true {x y : EvM} (h : x = y) (w : World) : (binOp .neq 114 x.val y.val).run Try.prog w = .ok (.bool false) w := by
  rw [evNeq, decide_eq_true h]
  rfl
theorem evEq_false {x y : EvM} (h : x ≠ y) (w : World) : (binOp .neq 114 x.val y.val).run Try.prog w = .ok (.bool true) w := by
  rw [evNeq, decide_eq_false h]
  rfl
end Go.Proofs.Ytchfjglofmphfaa
end
section
set_option linter.unusedSimpArgs false
set_option linter.unusedVariables false
set_option maxRecDepth 100000
set_option maxHeartbeats 1000000
namespace Go.Proofs.Ytchfjglofmphfaa
open Go.ChangeShapes Go.WideShapes Go.ChangeAt Go.RowKit
set_option maxRecDepth 100000 in
/-- 'out = append(out, list...)' -/
theorem wp_app_intsW {w : World} {ops : Array Oper} {rest : List Oper} {o : Oper} {a : Act} {Q : Exit → Act → World → Prop} (hgd : o.guard = none) (s x : Operand)
    (ho : o.op = .call { callee := .builtin .append, args := #[s, x], argTypes := #[25, 25] })
    (base : Nat) (v : Value) (xs : List Int) (hs : a.eval s = v) (hown : OwnI w base v xs)
    (S : Nat → Prop) (u : Value) (ys : List Int) (hx : a.eval x = u) (hsrc : Ints w S u ys) (hlen : xs.length + ys.length ≤ 1099511627776) (hbase : base ≤ w.heap.size)
    (h : ∀ v' w', OwnI w' base v' (xs ++ ys) → Chg (fun b => v.ownBlock = some b) w w' → (∀ b, v'.ownBlock = some b → v.ownBlock = some b ∨ w.heap.size ≤ b) → Chg (fun k => base ≤ k) w w' → wpList Try.prog ops Q rest (a.put o.dst v') w') : wpList Try.prog ops Q (o :: rest) a w := by
  obtain ⟨i0, hi, hz0, hz1, hz2⟩ := info_parts info2
  obtain ⟨A, c, rfl, hlc, hcm, hok, hr, hnn⟩ := hsrc
  have hok' : ∀ y ∈ xs ++ ys, I64 y := fun y hy => (List.mem_append.1 hy).elim (hown.2 y) (hok y)
  cases A with
  | none =>
    have hy : ys = [] := by
      rcases Nat.eq_zero_or_pos ys.length with h0 | h0
      · exact List.eq_nil_of_length_eq_zero h0
      · obtain ⟨b, oo, h1, _⟩ := hr h0
        cases h1
    subst hy
    obtain rfl := hnn rfl
    refine wpList_append_own_none hgd s x 25 ho base 2 i0 1 Try.underlying25 hi v xs.length _ hs hown.1 hx ?_
    exact h v w (by simpa using hown) (Chg.refl _ _) (fun b hb => .inl hb) (Chg.refl _ _)
  | some ad =>
    have hnews : ∀ j q, (ys.map (Value.int .i64))[j]? = some q → w.cell? (ad.add j) = some q := by
      intro j q hq
      obtain ⟨hj, he⟩ := List.getElem?_eq_some_iff.1 hq
      have hj' : j < ys.length := by simpa using hj
      obtain ⟨b, oo, h1, _, _, hc⟩ := hr (by omega)
      injection h1 with h1
      subst h1
      have := (hc j hj').1
      rw [← he, List.getElem_map, ← this]
      unfold Addr.add
      by_cases h0 : j = 0 <;> simp [h0]
    refine wpList_append_own2 (P := Try.prog) hgd s x 25 ho base 2 i0 (.int .i64 0) 1 8 Try.underlying25 hi hz0 hz1 hz2 rfl (by decide) v xs.length _ hs hown.1 ad ys.length c (ys.map (Value.int .i64)) hx (by simp) hnews ?_ ?_ ?_ hbase ?_
    · intro q hq
      obtain ⟨y, _, rfl⟩ := List.mem_map.1 hq
      rfl
    · unfold Go.maxLen; omega
    · omega
    · intro v' w' h2 h3 h4
      exact h v' w' ⟨by simpa using h2, hok'⟩ (Chg.of_grown h3) h4 ((Chg.refl _ _).grown h3 fun k hk => .inl (hown.1.lt k hk).1)
theorem eqlIn_nil {P : Program} (w : World) (d : Nat) (t e : TypeId) (a : Option Addr) (l c : Nat) (h : P.underlying t = some (.slice e)) : (Op.equalIn (d + 1) t (.slice a l c) (.slice none 0 0)).run P w = .ok a.isNone w := by
  cases a <;> simp [Op.equalIn, run_underlying h]
theorem eql_nil {P : Program} (w : World) (t e : TypeId) (a : Option Addr) (l c : Nat) (h : P.underlying t = some (.slice e)) : (binOp .eql t (.slice a l c) (.slice none 0 0)).run P w = .ok (.bool a.isNone) w := by
  have h1 : (Op.equal t (.slice a l c) (.slice none 0 0)).run P w = .ok a.isNone w := eqlIn_nil w 9999 t e a l c h
  simp only [binOp]
  simp [h1]
set_option maxRecDepth 100000 in
set_option maxHeartbeats 2000000 in
theorem l00Own_any (w : World) (S : Nat → Prop) (v : Value) (xs : List Int) (h : Ints w S v xs) (hl : xs.length ≤ 100000) :
    Calls Try.prog 78 #[v] w fun e w' => ∃ v', e = .returned v' ∧ Ints w' (New w.heap.size w'.heap.size) v' xs ∧ Up w w' := by
  obtain ⟨A, c, rfl, hlc, hcm, -⟩ := h.shape
  have H := Lib.hid h
  have M0 := Lib.hid (OwnI.made w w.heap.size (Nat.le_refl _))
  have HL := Lib.hid (show ([] : List Int).length + xs.length ≤ 1099511627776 by simp; omega)
  clear h
  go_enter Try.func78, Try.ntmps78
  go_wp2_with (first | (at_builtin; refine wp_app_intsW rfl _ _ rfl w.heap.size _ ([] : List Int) rfl M0.out _ _ xs rfl (H.out.up (by repeat (first | exact Chg.refl _ _ | apply Chg.drew | apply Chg.drewN | refine Chg.alloc ?_ _))) HL.out (by simp) ?_; intro v' w1 ho1 _ _ hg1; have HO := Lib.hid ho1; have HG := Lib.hid (Chg.new ((Chg.refl Nowhere w).alloc _) hg1 (fun i hi => by omega)); clear ho1 hg1))
  go_ret
  exact ⟨_, rfl, by have := HO.out.ints; rw [List.nil_append] at this; exact this, HG.out⟩
set_option maxRecDepth 100000 in
set_option maxHeartbeats 2000000 in
theorem clone_any (w : World) (S : Nat → Prop) (v : Value) (xs : List Int) (h : Ints w S v xs) (hl : xs.length ≤ 100000) :
    Calls Try.prog 194 #[v] w fun e w' => ∃ v', e = .returned v' ∧ Ints w' (New w.heap.size w'.heap.size) v' xs ∧ Up w w' := by
  obtain ⟨A, c, rfl, hlc, hcm, -⟩ := h.shape
  have H := Lib.hid h
  have M0 := Lib.hid (OwnI.made w w.heap.size (Nat.le_refl _))
  have HL := Lib.hid (show ([] : List Int).length + xs.length ≤ 1099511627776 by simp; omega)
  clear h
  have hq := fun u : World => eql_nil (P := Try.prog) u 25 2 A xs.length c Try.underlying25
  cases A with
  | none =>
    obtain ⟨_, _, he, _, _, _, _, hnn⟩ := H.out
    have hz : xs = [] := by
      rcases Nat.eq_zero_or_pos xs.length with h0 | h0
      · exact List.eq_nil_of_length_eq_zero h0
      · obtain ⟨_, _, h1, _⟩ := H.out.ix h0; cases h1
    subst hz
    go_enter Try.func194, Try.ntmps194
    have hq2 := fun u : World => eql_nil (P := Try.prog) u 25 2 none 0 0 Try.underlying25
    go_wp2
    go_ret
    exact ⟨_, rfl, Ints.nil _ _ _ _ (by omega), Chg.refl _ _⟩
  | some a =>
    go_enter Try.func194, Try.ntmps194
    go_wp2_with (first | (at_builtin; refine wp_app_intsW rfl _ _ rfl w.heap.size _ ([] : List Int) rfl M0.out _ _ xs rfl (H.out.up (by repeat (first | exact Chg.refl _ _ | apply Chg.drew | apply Chg.drewN | refine Chg.alloc ?_ _))) HL.out (by simp) ?_; intro v' w1 ho1 _ _ hg1; have HO := Lib.hid ho1; have HG := Lib.hid (Chg.new ((Chg.refl Nowhere w).alloc _) hg1 (fun i hi => by omega)); clear ho1 hg1))
    go_ret
    exact ⟨_, rfl, by have := HO.out.ints; rw [List.nil_append] at this; exact this, HG.out⟩
end Go.Proofs.Ytchfjglofmphfaa
end
section
set_option linter.unusedSimpArgs false
set_option linter.unusedVariables false
set_option maxRecDepth 100000
set_option maxHeartbeats 4000000
namespace Go.Proofs.Ytchfjglofmphfaa
open Go.ChangeShapes Go.WideShapes Go.ChangeAt Go.RowKit
set_option maxRecDepth 100000 in
/-- 'out = append(out, list...)': what has turned, and where the row lies now -/
theorem wp_appEvs2 {w : World} {ops : Array Oper} {rest : List Oper} {o : Oper} {a : Act} {Q : Exit → Act → World → Prop} (hgd : o.guard = none) (s x : Operand)
    (ho : o.op = .call { callee := .builtin .append, args := #[s, x], argTypes := #[29, 29] })
    (base : Nat) (v : Value) (xs : List EvM) (hs : a.eval s = v) (hown : OwnEvs w base v xs)
    (S : Nat → Prop) (u : Value) (ys : List EvM) (hx : a.eval x = u) (hsrc : Evs w S u ys) (hlen : xs.length + ys.length ≤ 1099511627776) (hbase : base ≤ w.heap.size)
    (h : ∀ v' w', OwnEvs w' base v' (xs ++ ys) → Chg (fun b => v.ownBlock = some b) w w' → (∀ b, v'.ownBlock = some b → v.ownBlock = some b ∨ w.heap.size ≤ b) → Chg (fun k => base ≤ k) w w' → wpList Try.prog ops Q rest (a.put o.dst v') w') : wpList Try.prog ops Q (o :: rest) a w := by
  obtain ⟨i0, hi, hz0, hz1, hz2⟩ := info_parts infoEvs
  obtain ⟨⟨hl, A, c, rfl, hlc, hcm, hr, hnn⟩, hok⟩ := hsrc
  have hok' : ∀ y ∈ xs ++ ys, y.ok := fun y hy => (List.mem_append.1 hy).elim (hown.2 y) (hok y)
  cases A with
  | none =>
    have hy : ys = [] := by
      rcases Nat.eq_zero_or_pos ys.length with h0 | h0
      · exact List.eq_nil_of_length_eq_zero h0
      · obtain ⟨b, oo, h1, _⟩ := hr h0
        cases h1
    subst hy
    obtain rfl := hnn rfl
    refine wpList_append_own_none hgd s x 29 ho base 114 i0 6 Try.underlying29 hi v xs.length _ hs hown.1 hx ?_
    exact h v w (by simpa using hown) (Chg.refl _ _) (fun b hb => .inl hb) (Chg.refl _ _)
  | some ad =>
    have hnews : ∀ j q, (ys.flatMap EvM.cells)[j]? = some q → w.cell? (ad.add j) = some q := by
      intro j q hq
      obtain ⟨hj, he⟩ := List.getElem?_eq_some_iff.1 hq
      have hp : 0 < ys.length := by
        rcases Nat.eq_zero_or_pos ys.length with h0 | h0
        · rw [List.eq_nil_of_length_eq_zero h0] at hj; simp at hj
        · exact h0
      obtain ⟨b, oo, h1, _, _, hc⟩ := hr hp
      injection h1 with h1
      subst h1
      have := (hc j hj).1
      rw [he] at this
      rw [← this]
      unfold Addr.add
      by_cases h0 : j = 0 <;> simp [h0]
    refine wpList_append_own2 (P := Try.prog) hgd s x 29 ho base 114 i0 _ 6 48 Try.underlying29 hi hz0 hz1 hz2 rfl (by decide) v xs.length _ hs hown.1 ad ys.length c (ys.flatMap EvM.cells) hx hl hnews ?_ ?_ ?_ hbase ?_
    · intro q hq
      obtain ⟨y, _, hy⟩ := List.mem_flatMap.1 hq
      exact cells_oneEvs y q hy
    · unfold Go.maxLen; omega
    · omega
    · intro v' w' h2 h3 h4
      exact h v' w' ⟨by simpa using h2, hok'⟩ (Chg.of_grown h3) h4 ((Chg.refl _ _).grown h3 fun k hk => .inl (hown.1.lt k hk).1)
theorem wp_app1Evs2 {w : World} {ops : Array Oper} {rest : List Oper} {o : Oper} {a : Act} {Q : Exit → Act → World → Prop} (hgd : o.guard = none) (s x : Operand)
    (ho : o.op = .call { callee := .builtin .append, args := #[s, x], argTypes := #[29, 29] })
    (base : Nat) (v : Value) (xs : List EvM) (hs : a.eval s = v) (hown : OwnEvs w base v xs)
    (g : Nat) (y : EvM) (hx : a.eval x = .slice (some ⟨g, 0, none⟩) 1 1) (hh : w.heap[g]? = some (.cells y.cells.toArray 114 (0, 0))) (hy : y.ok) (hlen : xs.length ≤ 1099511627775) (hbase : base ≤ w.heap.size)
    (h : ∀ v' w', OwnEvs w' base v' (xs ++ [y]) → Chg (fun b => v.ownBlock = some b) w w' → (∀ b, v'.ownBlock = some b → v.ownBlock = some b ∨ w.heap.size ≤ b) → Chg (fun k => base ≤ k) w w' → wpList Try.prog ops Q rest (a.put o.dst v') w') : wpList Try.prog ops Q (o :: rest) a w :=
  wp_appEvs2 hgd s x ho base v xs hs hown (fun _ => True) _ [y] hx ⟨Raw.of_block hh (by simp) trivial rfl (by simp) (by omega), by simpa using hy⟩ (by simp; omega) hbase h
theorem swapTo_bd {p : Int} {a b : Nat} (hp : 0 ≤ p ∧ p ≤ 1000) (ha : a ≤ 4) (hb : b ≤ 4) : ∀ x ∈ swapTo p 1 a b, 1 ≤ x ∧ x ≤ 1010 := by
  have key : ∀ t, t ≤ 4 → ∀ x ∈ swapTo p 1 a t, 1 ≤ x ∧ x ≤ 1010 := by
    intro t
    induction t with
    | zero => intro _ x hx; simp [swapTo] at hx
    | succ t ih =>
      intro ht x hx
      rcases List.mem_append.1 hx with hx | hx
      · exact ih (by omega) x hx
      · unfold swapRow at hx
        obtain ⟨i, hi, rfl⟩ := List.mem_map.1 hx
        have := List.mem_range.1 hi
        omega
  exact key b hb
theorem crossings_any (w : World) (p s : Int) (a c : Nat) (hp : 0 ≤ p ∧ p ≤ 1000) (hs : s = 1 ∨ s = -1) (ha : a ≤ 4) (hc : c ≤ 4) :
    Calls Try.prog 169 #[.int .i64 p, .int .i64 a, .int .i64 c, .int .i64 s] w fun e w' => ∃ v, e = .returned v ∧ Evs w' (New w.heap.size w'.heap.size) v (crossE p s a c) ∧ Up w w' := by
  have HS : Hid (-1 ≤ s ∧ s ≤ 1) := Lib.hid (by omega)
  have HBD := Lib.hid (swapTo_bd hp ha hc)
  clear hs
  go_enter Try.func169, Try.ntmps169
  go_wp2_with fail
  refine (blockLetters_any _ p 1 a c ⟨hp.1, by omega⟩ (.inl rfl) (by omega) (by omega)).mono ?_
  rintro e w2 ⟨v2, rfl, k2, g2⟩
  obtain ⟨L, hL⟩ : ∃ L, L = swapTo p 1 a c := ⟨_, rfl⟩
  rw [← hL] at k2 HBD
  have HL := Lib.hid hL
  have HLEN : Hid (L.length ≤ 16) := Lib.hid (by rw [hL, swapTo_length]; exact Nat.mul_le_mul hc ha)
  obtain ⟨A, c2, rfl, hl2, hc2, -⟩ := k2.shape
  have K2 := Lib.hid k2
  have M0 := Lib.hid (OwnEvs.made w w.heap.size (Nat.le_refl _))
  have G2 := Lib.hid g2
  have hz2 := g2.size
  have hz2' : w.heap.size + 1 ≤ w2.heap.size := by simpa using hz2
  clear k2 g2 hL hz2
  go_wp2
  go_loopw [9, 11, 18] (fun v _ i wr => ∃ j : Nat, j ≤ L.length ∧ i = .int .i64 j ∧ Hid (OwnEvs wr w.heap.size v ((L.take j).map (evX s))) ∧ Hid (Up w wr) ∧ Hid (Ints wr (New (w.heap.size + 1) w2.heap.size) (.slice A L.length c2) L) ∧ Hid (∀ g, v.ownBlock = some g → g = w.heap.size ∨ w2.heap.size ≤ g) ∧ Hid (w2.heap.size ≤ wr.heap.size)) (fun _ _ i _ => L.length - (intOf i).toNat)
  case atStart => exact ⟨0, by omega, rfl, M0.out.up G2.out, Chg.trans ((Chg.refl _ _).alloc _) G2.out, (K2.out.mono (fun b _ h => ⟨(by have h1 := h.1; simpa using h1), h.2⟩)), fun g hg => .inl (by simpa [Value.ownBlock] using hg.symm), Nat.le_refl _⟩
  case round =>
    obtain ⟨j, hj, rfl, ho, hu, ht, hg, hz⟩ := hrel
    have hln := HLEN.out
    by_cases hlt : j < L.length
    · obtain ⟨b1, o1, rfl, -, hc1⟩ := ht.out.ix hlt
      have f1 := hc1 j hlt
      rw [ix_eq hlt] at f1
      clear hc1
      have hbd := HBD.out _ (List.getElem_mem hlt)
      have hsz := hz.out
      have hs2 := HS.out
      have HY := Lib.hid (show (evX s L[j]).ok by unfold EvM.ok evX I64; simp only []; omega)
      have HT := Lib.hid (show (L.take (j + 1)).map (evX s) = (L.take j).map (evX s) ++ [evX s L[j]] by rw [List.take_succ_eq_append_getElem hlt, List.map_append]; rfl)
      have HLL := Lib.hid (show ((L.take j).map (evX s)).length ≤ 1099511627775 by rw [List.length_map, List.length_take]; omega)
      clear hs2
      go_wp2_with (at_builtin; refine wp_app1Evs2 rfl _ _ rfl w.heap.size _ ((L.take j).map (evX s)) rfl (ho.out.alloc _) _ (evX s L[j]) rfl (heap_alloc_new _ _) HY.out HLL.out (by simp; omega) ?_; intro v' w' h1 h2 h3 h4; have HO := Lib.hid h1; have HC := Lib.hid h2; have HN := Lib.hid h3; have HG := Lib.hid h4; have hzz := h4.size; clear h1 h2 h3 h4)
      have hzz2 : wr.heap.size + 1 ≤ w'.heap.size := by simpa using hzz
      go_roundw
      case rel => exact ⟨j + 1, by omega, by go_num, by show Hid _; rw [HT.out]; exact HO, Lib.hid (Chg.new (hu.out.alloc _) HG.out (fun i hi => by omega)), Lib.hid ((ht.out.up ((Chg.refl _ _).alloc _)).keep HC.out (fun b _ h he => by have h5 := hg.out b he; have := h.1; have := h.2; omega)), Lib.hid (fun g hg' => by rcases HN.out g hg' with h5 | h5; exact hg.out g h5; exact .inr (by have h6 : wr.heap.size + 1 ≤ g := (by simpa using h5); omega)), Lib.hid (by omega)⟩
      case measure => first | (simp [intOf]; done) | (simp [intOf]; omega)
    · obtain rfl : j = L.length := by omega
      have HE := Lib.hid (show (L.take L.length).map (evX s) = crossE p s a c by rw [List.take_length, HL.out]; rfl)
      go_wp2
      go_ret
      exact ⟨_, rfl, by rw [← HE.out]; exact ho.out.rd, hu.out⟩
theorem l10Cross_any (w : World) (p s : Int) (a c : Nat) (hp : 0 ≤ p ∧ p ≤ 1000) (hs : s = 1 ∨ s = -1) (ha : a ≤ 4) (hc : c ≤ 4) :
    Calls Try.prog 160 #[.int .i64 p, .int .i64 a, .int .i64 c, .int .i64 s] w fun e w' => ∃ v, e = .returned v ∧ Evs w' (New w.heap.size w'.heap.size) v (crossE p s a c) ∧ Up w w' := by
  have HS : Hid (-1 ≤ s ∧ s ≤ 1) := Lib.hid (by omega)
  clear hs
  go_enter Try.func160, Try.ntmps160
  go_wp2
  go_loopw [9, 10, 11] (fun v i _ wr => ∃ t : Nat, t ≤ c ∧ i = .int .i64 t ∧ Hid (OwnEvs wr w.heap.size v ((swapTo p 1 a t).map (evX s))) ∧ Hid (Up w wr)) (fun _ i _ _ => c - (intOf i).toNat)
  case atStart => exact ⟨0, by omega, rfl, OwnEvs.made w _ (Nat.le_refl _), (Chg.refl _ _).alloc _⟩
  case round =>
    obtain ⟨t, ht, rfl, ho, hg⟩ := hrel
    by_cases hlt : t < c
    · go_wp2
      go_loopw [9, 11] (fun v k wr => ∃ m : Nat, m ≤ a ∧ k = .int .i64 ((a : Int) - 1 - m) ∧ Hid (OwnEvs wr w.heap.size v ((swapTo p 1 a t ++ swapRow p 1 a t m).map (evX s))) ∧ Hid (Up w wr)) (fun _ k _ => (intOf k + 1).toNat)
      case atStart => exact ⟨0, by omega, by simp, by simpa [swapRow, Hid] using ho, hg⟩
      case round =>
        obtain ⟨m, hm, rfl, ho2, hg2⟩ := hrel
        by_cases hlt2 : m < a
        · have hsz := hg2.out.size
          have hs2 := HS.out
          have HY := Lib.hid (show (evX s (1 * (p + t + ((a : Int) - 1 - m) + 1))).ok by unfold EvM.ok evX I64; simp only []; omega)
          have HYE := Lib.hid (show (evX s (1 * (p + t + ((a : Int) - 1 - m) + 1))) = ⟨1, p + t + ((a : Int) - 1 - m), s, 0, 0, 0⟩ by unfold evX; congr 1; omega)
          have HL := Lib.hid (show ((swapTo p 1 a t ++ swapRow p 1 a t m).map (evX s)).length ≤ 1099511627775 by
            rw [List.length_map, List.length_append, swapTo_length, swapRow_length]
            have : t * a ≤ 4 * 4 := Nat.mul_le_mul (by omega) ha
            omega)
          have HT := Lib.hid (show (swapTo p 1 a t ++ swapRow p 1 a t (m + 1)).map (evX s) = (swapTo p 1 a t ++ swapRow p 1 a t m).map (evX s) ++ [evX s (1 * (p + t + ((a : Int) - 1 - m) + 1))] by rw [swapRow_succ, ← List.append_assoc, List.map_append]; rfl)
          have hge : (0 : Int) ≤ (a : Int) - 1 - m := by omega
          clear hs2
          go_wp2_with (at_builtin; refine wp_append1Evs rfl _ _ rfl w.heap.size _ ((swapTo p 1 a t ++ swapRow p 1 a t m).map (evX s)) rfl (ho2.out.alloc _) _ ⟨1, p + t + ((a : Int) - 1 - m), s, 0, 0, 0⟩ rfl (heap_alloc_new _ _) (HYE.out ▸ HY.out) HL.out (by simp; omega) ?_; intro v' w' h1 h2 h3; have HO := Lib.hid h1; have HG := Lib.hid h3; clear h1 h2 h3)
          go_roundw
          case rel => exact ⟨m + 1, by omega, by simp only [Value.int.injEq, true_and]; omega, by show Hid _; rw [HT.out, HYE.out]; exact HO, Chg.new (hg2.out.alloc _) HG.out (fun i hi => by omega)⟩
          case measure => first | (simp [intOf]; done) | (simp [intOf]; omega)
        · obtain rfl : m = a := by omega
          have hge : ¬ (0 : Int) ≤ (m : Int) - 1 - m := by omega
          go_wp2
          go_roundw
          case rel => exact ⟨t + 1, by omega, by go_num, ho2, hg2⟩
          case measure => first | (simp [intOf]; done) | (simp [intOf]; omega)
    · obtain rfl : t = c := by omega
      go_wp2
      go_ret
      exact ⟨_, rfl, ho.out.rd, hg.out⟩
end Go.Proofs.Ytchfjglofmphfaa
end
section
set_option linter.unusedSimpArgs false
set_option linter.unusedVariables false
namespace Go.Proofs.Ytchfjglofmphfaa
open Go.ChangeShapes Go.WideShapes Go.ChangeAt Go.RowKit
/-- a slice of numbers of which one is set -/
theorem Ints.set {w : World} {S : Nat → Prop} {b o c : Nat} {xs : List Int} (h : Ints w S (.slice (some ⟨b, o, none⟩) xs.length c) xs) {k : Nat} (hk : k < xs.length) {x : Int} (hx : I64 x) : Ints (w.setCell ⟨b, o + k, none⟩ (.int .i64 x)) S (.slice (some ⟨b, o, none⟩) xs.length c) (xs.set k x) := by
  obtain ⟨A, c', hv, h1, h2, h3, h4, h5⟩ := h
  obtain ⟨rfl, rfl⟩ : some ⟨b, o, none⟩ = A ∧ c = c' := by simpa using hv
  obtain ⟨b', o', ha, hs, hb, hc⟩ := h4 (by omega)
  obtain ⟨rfl, rfl⟩ : b = b' ∧ o = o' := by simpa using ha
  refine ⟨_, c, by rw [List.length_set], by rw [List.length_set]; exact h1, h2, fun y hy => ?_, fun _ => ⟨b, o, rfl, hs, by simpa [World.setCell] using hb, fun t ht => ?_⟩, by simp⟩
  · rcases List.mem_or_eq_of_mem_set hy with h | h
    · exact h3 y h
    · rw [h]; exact hx
  · rw [List.length_set] at ht
    obtain ⟨c1, c2⟩ := hc t ht
    by_cases e : t = k
    · subst e
      rw [List.getElem_set_self]
      exact ⟨World.cell?_setCell_same _ _ _ c1, by simpa using c2⟩
    · rw [World.cell?_setCell_other _ _ _ _ (fun h => e (by injection h with _ h _; omega)), List.getElem_set_ne (fun h => e h.symm)]
      exact ⟨c1, by simpa using c2⟩
theorem ints_ixf {w : World} {S : Nat → Prop} {A : Option Addr} {c : Nat} {xs : List Int} (h : Ints w S (.slice A xs.length c) xs) {i : Nat} (hi : i < xs.length) :
    ∃ b o, A = some ⟨b, o, none⟩ ∧ b < w.heap.size ∧ ∀ j, j < xs.length → w.cell? ⟨b, o + j, none⟩ = some (.int .i64 (ix xs j)) ∧ w.frozen? ⟨b, o + j, none⟩ = false := by
  obtain ⟨A', c', he, _, _, _, hr, _⟩ := h
  obtain ⟨rfl, rfl⟩ : A = A' ∧ c = c' := by simpa using he
  obtain ⟨b, o, hA, _, hbl, hc⟩ := hr (by omega)
  exact ⟨b, o, hA, hbl, fun j hj => by rw [ix_eq hj]; exact hc j hj⟩
theorem Ints.zeros (w : World) (S : Nat → Prop) (n : Nat) (e : TypeId) (hn : n ≤ 9223372036854775807) (hS : S w.heap.size) : Ints (w.alloc (.cells (madeCells #[.int .i64 0] n) e)) S (.slice (some ⟨w.heap.size, 0, none⟩) n n) (List.replicate n 0) :=
  ⟨_, n, by rw [List.length_replicate], by rw [List.length_replicate]; exact Nat.le_refl _, hn, fun x hx => by rw [(List.mem_replicate.1 hx).2]; unfold I64; omega, fun _ => ⟨w.heap.size, 0, rfl, hS, by simp, fun t ht => by
    rw [List.length_replicate] at ht
    rw [Nat.zero_add, cell_new, madeInts_get _ _ ht, List.getElem_replicate]
    exact ⟨rfl, frozen_new _ _ _ _⟩⟩, by simp⟩
theorem ix_set_self {xs : List Int} {k : Nat} (h : k < xs.length) (x : Int) : ix (xs.set k x) k = x := by rw [ix_eq (by simpa using h), List.getElem_set_self]
/-- 0, 1, .. -/
def identTo (n : Nat) : Nat → List Int
  | 0 => List.replicate n 0
  | j + 1 => (identTo n j).set j j
theorem identTo_length (n : Nat) : ∀ j, (identTo n j).length = n
  | 0 => List.length_replicate
  | j + 1 => by rw [identTo, List.length_set, identTo_length n j]
theorem identTo_get (n : Nat) : ∀ (j t : Nat) (h : t < (identTo n j).length), (identTo n j)[t] = if t < j then (t : Int) else 0
  | 0, t, h => by simp [identTo]
  | j + 1, t, h => by
    have hn : t < (identTo n j).length := by rw [identTo_length] at *; exact h
    simp only [identTo]
    rw [List.getElem_set]
    by_cases e : j = t
    · subst e
      rw [if_pos rfl, if_pos (by omega)]
    · rw [if_neg e, identTo_get n j t hn]
      by_cases h2 : t < j
      · rw [if_pos h2, if_pos (by omega)]
      · rw [if_neg h2, if_neg (by omega)]
def identM (n : Nat) : List Int := (List.range n).map fun i : Nat => (i : Int)
theorem identM_length (n : Nat) : (identM n).length = n := by simp [identM]
theorem identTo_all (n : Nat) : identTo n n = identM n := by
  refine List.ext_getElem (by rw [identTo_length, identM_length]) fun t h1 h2 => ?_
  rw [identTo_get, identTo_length] at *
  rw [if_pos h1]
  simp [identM]
theorem identM_succ (n : Nat) : identM (n + 1) = identM n ++ [(n : Int)] := by simp [identM, List.range_succ]
theorem identM_i64 {n : Nat} (hn : n ≤ 1000000) : ∀ x ∈ identM n, I64 x := by
  intro x hx
  obtain ⟨i, hi, rfl⟩ := List.mem_map.1 hx
  have := List.mem_range.1 hi
  unfold I64
  omega
/-- n - 1, n - 2, .., the first k of them -/
def fallTo (n k : Nat) : List Int := (List.range k).map fun i : Nat => (n : Int) - 1 - i
theorem fallTo_succ (n k : Nat) : fallTo n (k + 1) = fallTo n k ++ [(n : Int) - 1 - k] := by simp [fallTo, List.range_succ]
theorem fallTo_length (n k : Nat) : (fallTo n k).length = k := by simp [fallTo]
theorem fallTo_all (n : Nat) : fallTo n n = (identM n).reverse := by
  refine List.ext_getElem (by simp [fallTo, identM]) fun t h1 h2 => ?_
  rw [fallTo_length] at h1
  rw [List.getElem_reverse]
  simp [fallTo, identM]
  omega
def halfM (n : Nat) : List Int := (identM n).reverse
/-- whether a list is a permutation of few things -/
def permB (p : List Int) : Bool := decide (p.length ≤ 12) && decide (∀ x ∈ p, 0 ≤ x ∧ x < p.length) && decide p.Nodup
theorem permB_len {p : List Int} (h : permB p = true) : p.length ≤ 12 := by
  unfold permB at h
  simp only [Bool.and_eq_true, decide_eq_true_eq] at h
  exact h.1.1
theorem permB_in {p : List Int} (h : permB p = true) : ∀ x ∈ p, 0 ≤ x ∧ x < p.length := by
  unfold permB at h
  simp only [Bool.and_eq_true, decide_eq_true_eq] at h
  exact h.1.2
theorem permB_nodup {p : List Int} (h : permB p = true) : p.Nodup := by
  unfold permB at h
  simp only [Bool.and_eq_true, decide_eq_true_eq] at h
  exact h.2
theorem permB_ix {p : List Int} (h : permB p = true) {j : Nat} (hj : j < p.length) : 0 ≤ ix p j ∧ ix p j < p.length := by
  rw [ix_eq hj]
  exact permB_in h _ (List.getElem_mem hj)
/-- the first j are fine -/
def permTo (p : List Int) (j : Nat) : Prop := ∀ i (hi : i < p.length), i < j → (0 ≤ p[i] ∧ p[i] < p.length) ∧ p[i] ∉ p.take i
theorem permTo.start (p : List Int) : permTo p 0 := fun _ _ h => absurd h (Nat.not_lt_zero _)
theorem permTo.next {p : List Int} {j : Nat} (h : permTo p j) (hj : j < p.length) (h1 : 0 ≤ p[j] ∧ p[j] < p.length) (h2 : p[j] ∉ p.take j) : permTo p (j + 1) := fun i hi hij => by
  by_cases e : i = j
  · subst e
    exact ⟨h1, h2⟩
  · exact h i hi (by omega)
theorem permTo.all {p : List Int} (h : permTo p p.length) (hl : p.length ≤ 12) : permB p = true := by
  unfold permB
  simp only [Bool.and_eq_true, decide_eq_true_eq]
  refine ⟨⟨hl, fun x hx => ?_⟩, ?_⟩
  · obtain ⟨i, hi, rfl⟩ := List.getElem_of_mem hx
    exact (h i hi hi).1
  · rw [List.nodup_iff_pairwise_ne, List.pairwise_iff_getElem]
    intro i j hi hj hij he
    refine (h j hj hj).2 ?_
    rw [← he, List.mem_take_iff_getElem]
    exact ⟨i, by omega, rfl⟩
theorem permB_long {p : List Int} (h : ¬ p.length ≤ 12) : permB p = false := by unfold permB; rw [decide_eq_false h]; rfl
theorem permB_out {p : List Int} {j : Nat} (hj : j < p.length) (h : ¬ (0 ≤ p[j] ∧ p[j] < p.length)) : permB p = false := by
  cases hb : permB p with
  | false => rfl
  | true => exact absurd (permB_in hb _ (List.getElem_mem hj)) h
theorem permB_twice {p : List Int} {j : Nat} (hj : j < p.length) (h : p[j] ∈ p.take j) : permB p = false := by
  cases hb : permB p with
  | false => rfl
  | true =>
    obtain ⟨i, hi, he⟩ := List.mem_take_iff_getElem.1 h
    have := (List.nodup_iff_pairwise_ne.1 (permB_nodup hb))
    rw [List.pairwise_iff_getElem] at this
    exact absurd he (this i j (by omega) hj (by omega))
/-- the places whose pair is an inversion, among the first j -/
def descTo (p : List Int) : Nat → List Int
  | 0 => []
  | j + 1 => if ix p (j + 1) < ix p j then descTo p j ++ [(j : Int)] else descTo p j
def descM (p : List Int) : List Int := descTo p (p.length - 1)
theorem descTo_bd (p : List Int) : ∀ j, ∀ x ∈ descTo p j, 0 ≤ x ∧ x < j
  | 0 => by simp [descTo]
  | j + 1 => by
    intro x hx
    unfold descTo at hx
    split at hx
    · rcases List.mem_append.1 hx with h | h
      · have := descTo_bd p j x h; omega
      · simp at h; omega
    · have := descTo_bd p j x hx; omega
theorem descTo_length (p : List Int) : ∀ j, (descTo p j).length ≤ j
  | 0 => by simp [descTo]
  | j + 1 => by
    have := descTo_length p j
    unfold descTo
    split
    · simp; omega
    · omega
def startTo (p : List Int) (j : Nat) : List Int := (descTo p j).map (· + 1)
def startM (p : List Int) : List Int := (descM p).map (· + 1)
theorem startTo_succ (p : List Int) (j : Nat) : startTo p (j + 1) = if ix p (j + 1) < ix p j then startTo p j ++ [(j : Int) + 1] else startTo p j := by
  unfold startTo
  rw [descTo]
  split <;> simp
theorem startTo_length (p : List Int) (j : Nat) : (startTo p j).length ≤ j := by unfold startTo; rw [List.length_map]; exact descTo_length p j
/-- the inverse -/
def invTo (p : List Int) : Nat → List Int
  | 0 => List.replicate p.length 0
  | j + 1 => (invTo p j).set (ix p j).toNat j
theorem invTo_length (p : List Int) : ∀ j, (invTo p j).length = p.length
  | 0 => List.length_replicate
  | j + 1 => by rw [invTo, List.length_set, invTo_length p j]
def invM (p : List Int) : List Int := invTo p p.length
/-- the first letter with which q begins and p does not end; 0 -/
def extraM (p q : List Int) : Int := ((startM q).find? fun k => !decide (k ∈ startM (invM p))).getD 0
def extraFrom (p q : List Int) (j : Nat) : Prop := ∀ i (hi : i < (startM q).length), i < j → (startM q)[i] ∈ startM (invM p)
theorem extraFrom.start (p q : List Int) : extraFrom p q 0 := fun _ _ h => absurd h (Nat.not_lt_zero _)
theorem extraFrom.next {p q : List Int} {j : Nat} (h : extraFrom p q j) (hj : j < (startM q).length) (h1 : (startM q)[j] ∈ startM (invM p)) : extraFrom p q (j + 1) := fun i hi hij => by
  by_cases e : i = j
  · subst e; exact h1
  · exact h i hi (by omega)
theorem extraFrom.all {p q : List Int} (h : extraFrom p q (startM q).length) : extraM p q = 0 := by
  unfold extraM
  rw [List.find?_eq_none.2]
  · rfl
  · intro x hx
    obtain ⟨i, hi, rfl⟩ := List.getElem_of_mem hx
    simpa using h i hi hi
theorem extraFrom.at_ {p q : List Int} {j : Nat} (h : extraFrom p q j) (hj : j < (startM q).length) (h1 : (startM q)[j] ∉ startM (invM p)) : extraM p q = (startM q)[j] := by
  unfold extraM
  rw [List.find?_eq_some_iff_getElem.2 ⟨by simpa using h1, j, hj, rfl, fun i hi => by simpa using h i (by omega) hi⟩]
  rfl
theorem startM_bd (q : List Int) : ∀ x ∈ startM q, 1 ≤ x ∧ x ≤ q.length := by
  intro x hx
  obtain ⟨y, hy, rfl⟩ := List.mem_map.1 hx
  have := descTo_bd q _ y hy
  omega
theorem extraM_bd (p q : List Int) : 0 ≤ extraM p q ∧ extraM p q ≤ q.length := by
  unfold extraM
  cases h : (startM q).find? fun k => !decide (k ∈ startM (invM p)) with
  | none => simp
  | some x =>
    have := startM_bd q x (List.mem_of_find?_eq_some h)
    simp only [Option.getD_some]
    omega
end Go.Proofs.Ytchfjglofmphfaa
end
namespace Go.Proofs.Ytchfjglofmphfaa
open Go.ChangeShapes Go.WideShapes Go.ChangeAt Go.RowKit
/-- in the middle of turning a list round: the first k and the last k have changed places -/
def revAt (xs : List Int) (k t : Nat) : Int := if t < k ∨ xs.length - k ≤ t then ix xs (xs.length - 1 - t) else ix xs t
theorem revAt_k {xs : List Int} {k m : Nat} (hm : m = xs.length - 1 - k) (_h : k < m) : revAt xs (k + 1) k = ix xs m := by
  unfold revAt
  rw [if_pos (by omega), hm]
theorem revAt_m {xs : List Int} {k m : Nat} (hm : m = xs.length - 1 - k) (h : k < m) : revAt xs (k + 1) m = ix xs k := by
  unfold revAt
  rw [if_pos (by omega), show xs.length - 1 - m = k by omega]
theorem revAt_no {xs : List Int} {k m t : Nat} (hm : m = xs.length - 1 - k) (h : k < m) (h1 : t ≠ k) (h2 : t ≠ m) (ht : t < xs.length) : revAt xs (k + 1) t = revAt xs k t := by
  unfold revAt
  by_cases hh : t < k ∨ xs.length - k ≤ t
  · rw [if_pos hh, if_pos (by omega)]
  · rw [if_neg hh, if_neg (by omega)]
theorem revAt_end {xs : List Int} {k t : Nat} (h : ¬ k + 1 < xs.length - k) (hk : 2 * k ≤ xs.length) (ht : t < xs.length) : revAt xs k t = ix xs (xs.length - 1 - t) := by
  unfold revAt
  by_cases hh : t < k ∨ xs.length - k ≤ t
  · rw [if_pos hh]
  · rw [if_neg hh, show xs.length - 1 - t = t by omega]
set_option maxRecDepth 100000 in
set_option maxHeartbeats 4000000 in
theorem reverse_go (w : World) (b o c : Nat) (xs : List Int) (hlc : xs.length ≤ c) (hcm : c ≤ 9223372036854775807) (_hbl : b < w.heap.size)
    (hc : ∀ t, t < xs.length → w.cell? ⟨b, o + t, none⟩ = some (.int .i64 (ix xs t)) ∧ w.frozen? ⟨b, o + t, none⟩ = false) :
    Calls Try.prog 193 #[.slice (some ⟨b, o, none⟩) xs.length c] w fun e w' => e = .returned (.tuple #[]) ∧ Chg (fun x => x = b) w w' ∧ ∀ t, t < xs.length → w'.cell? ⟨b, o + t, none⟩ = some (.int .i64 (ix xs (xs.length - 1 - t))) ∧ w'.frozen? ⟨b, o + t, none⟩ = false := by
  have Hc := Lib.hid hc
  clear hc
  go_enter Try.func193, Try.ntmps193
  go_wp2
  go_loopw [2, 3] (fun i j wr => ∃ k : Nat, 2 * k ≤ xs.length ∧ i = .int .i64 k ∧ j = .int .i64 ((xs.length : Int) - 1 - k) ∧ Hid (Chg (fun x => x = b) w wr) ∧ Hid (∀ t, t < xs.length → wr.cell? ⟨b, o + t, none⟩ = some (.int .i64 (revAt xs k t)) ∧ wr.frozen? ⟨b, o + t, none⟩ = false)) (fun i _ _ => xs.length - (intOf i).toNat)
  case atStart => exact ⟨0, by omega, rfl, by simp, Chg.refl _ _, fun t ht => by
    have := Hc.out t ht
    unfold revAt
    rw [if_neg (by omega)]
    exact this⟩
  case round =>
    obtain ⟨k, hk, rfl, rfl, hg, hcs⟩ := hrel
    by_cases hlt : k + 1 < xs.length - k
    · obtain ⟨m, hm⟩ : ∃ m : Nat, m = xs.length - 1 - k := ⟨_, rfl⟩
      have hmI : (xs.length : Int) - 1 - k = m := by omega
      have hmk : k < m ∧ m < xs.length := by omega
      obtain ⟨hm1, hm2⟩ := hmk
      obtain ⟨p1, p2⟩ := hcs.out k (by omega)
      obtain ⟨p3, p4⟩ := hcs.out m hm2
      have e1 : revAt xs k k = ix xs k := by unfold revAt; rw [if_neg (by omega)]
      have e2 : revAt xs k m = ix xs m := by unfold revAt; rw [if_neg (by omega)]
      rw [e1] at p1
      rw [e2] at p3
      have HM := Lib.hid hm
      rw [hmI]
      have HMI := Lib.hid hmI
      clear e1 e2 hm hmI
      have hdd : decide ((k : Int) < (m : Int)) = true := decide_eq_true (by omega)
      have hnn : ¬ o + k = o + m := by omega
      have hnn2 : ¬ o + m = o + k := by omega
      go_wp2
      go_region
      all_goals go_wp2
      all_goals
        refine ⟨⟨k + 1, by omega, by go_num, ?_, ?_, ?_⟩, ?_⟩
        · have := HM.out; simp only [Value.int.injEq, true_and]; omega
        · exact Chg.drew (Chg.setCell (Chg.setCell hg.out (.inl rfl) _) (.inl rfl) _)
        · intro t ht
          obtain ⟨q1, q2⟩ := hcs.out t ht
          have hk1 : (wr.setCell ⟨b, o + k, none⟩ (.int .i64 (ix xs m))).cell? ⟨b, o + m, none⟩ = some (.int .i64 (ix xs m)) := by
            rw [World.cell?_setCell_other _ _ _ _ (fun h => hnn (Addr.mk.inj h).2.1)]
            exact p3
          by_cases ek : t = k
          · subst ek
            rw [revAt_k HM.out hm1]
            refine ⟨?_, by simpa using q2⟩
            show (World.setCell _ _ _).cell? _ = _
            rw [World.cell?_setCell_other _ _ _ _ (fun h => hnn2 (Addr.mk.inj h).2.1), World.cell?_setCell_same _ _ _ p1]
          · by_cases em : t = m
            · subst em
              rw [revAt_m HM.out hm1]
              refine ⟨?_, by simpa using q2⟩
              show (World.setCell _ _ _).cell? _ = _
              rw [World.cell?_setCell_same _ _ _ hk1]
            · rw [revAt_no HM.out hm1 ek em ht]
              refine ⟨?_, by simpa using q2⟩
              show (World.setCell _ _ _).cell? _ = _
              rw [World.cell?_setCell_other _ _ _ _ (fun h => em (by have := (Addr.mk.inj h).2.1; omega)), World.cell?_setCell_other _ _ _ _ (fun h => ek (by have := (Addr.mk.inj h).2.1; omega))]
              exact q1
        · simp [intOf]; omega
    · have hnot : ¬ (k : Int) < (xs.length : Int) - 1 - k := by omega
      have HE := Lib.hid (fun t (ht : t < xs.length) => revAt_end hlt hk ht)
      clear hlt
      go_wp2
      go_end0
      refine ⟨rfl, hg.out, fun t ht => ?_⟩
      rw [← HE.out t ht]
      exact hcs.out t ht
theorem reverse_any (w : World) (S : Nat → Prop) (v : Value) (xs : List Int) (h : Ints w S v xs) :
    Calls Try.prog 193 #[v] w fun e w' => e = .returned (.tuple #[]) ∧ Chg S w w' ∧ Ints w' S v xs.reverse := by
  obtain ⟨A, c, rfl, hlc, hcm, hx, hr, hnn⟩ := h
  by_cases hp : 0 < xs.length
  · obtain ⟨b, o, rfl, hS, hbl, hc⟩ := hr hp
    refine (reverse_go w b o c xs hlc hcm hbl (fun t ht => by rw [ix_eq ht]; exact hc t ht)).mono ?_
    rintro e w' ⟨he, hg, hcs⟩
    refine ⟨he, hg.mono (fun k _ hk => by rw [hk]; exact hS), _, c, by rw [List.length_reverse], by rw [List.length_reverse]; exact hlc, hcm, fun x hxx => hx x (List.mem_reverse.1 hxx), fun _ => ⟨b, o, rfl, hS, Nat.lt_of_lt_of_le hbl hg.size, fun t ht => ?_⟩, by simp⟩
    have ht' : t < xs.length := by simpa using ht
    have := hcs t ht'
    rw [ix_eq (show xs.length - 1 - t < xs.length by omega)] at this
    rw [List.getElem_reverse]
    exact this
  · have hn : xs = [] := List.eq_nil_of_length_eq_zero (by omega)
    subst hn
    clear hr hp
    go_enter Try.func193, Try.ntmps193
    go_wp2
    go_loop [2, 3] (fun i j => i = .int .i64 0 ∧ j = .int .i64 (-1)) (fun _ _ => 0)
    case atStart => exact ⟨rfl, by simp⟩
    case round =>
      obtain ⟨rfl, rfl⟩ := hrel
      go_wp2
      go_end0
      exact ⟨rfl, Chg.refl _ _, Ints.nil _ _ _ _ hcm hnn⟩
end Go.Proofs.Ytchfjglofmphfaa
