/- The program's CatchFloats answers as the reference's, for every colour chart and number; what it is given stays as it was, and its memory is its own. No condition. -/
import Derived.Test.YtchfjglofmphfaaC65
import Derived.Test.YtchfjglofmphfaaPD18
import Derived.Test.YtchfjglofmphfaaFacts
namespace Go.Proofs.Ytchfjglofmphfaa.fnExactCatchFloats
open Go.ChangeShapes Go.WideShapes Go.ChangeAt Go.RowKit
set_option linter.unusedVariables false
theorem own : ownKnob Try.prog.godebug = none := facts.own
theorem laidOut : laidOutB Try.prog = true := facts.f2
theorem readable : ∀ t ∈ Try.f4.params.toList, Try.prog.readableRec t = true ∧ t < Try.prog.types.size := by
  have h : (Try.f4.params.toList.all fun t => Try.prog.readableRec t && decide (t < Try.prog.types.size)) = true := by kernel_rfl
  intro t ht
  have h2 := List.all_eq_true.1 h t ht
  rw [Bool.and_eq_true, decide_eq_true_eq] at h2
  exact h2
theorem resT : Try.f4.resultTypes = #[4] := by kernel_rfl
set_option maxRecDepth 100000 in
theorem lifted (os : Os) (started : os.Started) (H : Type) (enc : TypeId × Value → H) :
    ReturnsInHanded {} Try.checked os 4 .any (Rows.fnExactCatchFloatsSpec.pre6 enc Try.prog Try.f4 Rows.fnExactCatchFloatsRow.domain false) (Rows.fnExactCatchFloatsSpec.post enc Try.prog Try.f4 false true false false) := by
  refine returnsInHanded_of_change (C := Try.checked) own started (by kernel_rfl) Try.func4
    (ChangeSpec.witness6 (enc := enc) (C := Try.checked) false ⟨#[], #[.agg #[.int .i64 0, .slice none 0 0], .int .i64 0], []⟩ 8 (by kernel_rfl) (by kernel_rfl) (by kernel_rfl) (by kernel_rfl)) ?_
  intro W base args ds gs before hval0 hW hcnd _
  have hval : ∀ (j : Nat) t v, Try.f4.params[j]? = some t → args[j]? = some v → Value.okWide Try.prog W .any base t v := hval0
  have hW' := hW
  obtain ⟨p, q, hA0, hV, rfl, hfz, hnd⟩ := hW
  have hA : DataW.TrodAll enc Try.prog W 0 (fun _ => true) true Try.f4.params.toList args.toList ds p := hA0
  rw [Try.params4] at hA hval
  obtain ⟨v0, vs0, d0, ds0, p0, q0, hargs, rfl, rfl, h0, r0⟩ := trodAll_cons hA
  obtain ⟨v1, vs1, d1, ds1, p1, q1, rfl, rfl, rfl, h1, r1⟩ := trodAll_cons r0
  obtain ⟨rfl, rfl, rfl⟩ := trodAll_nil r1
  obtain rfl : args = #[v0, v1] := by cases args; simp_all
  obtain ⟨rfl, rfl⟩ := trodVars_none hV
  have hpost : ∀ W', Below W.heap.size W W' → Rows.fnExactCatchFloatsSpec.post enc Try.prog Try.f4 false true false false W #[v0, v1] (.bool true) W' := fun W' hb =>
    law_post laidOut readable resT Try.underlying4 rfl rfl hW' hb
  have hz : ∀ b off, MemPlace.cell b off ∈ p0 ++ (p1 ++ []) → W.frozen? ⟨b, off, none⟩ = false := fun b off hm => hfz b off (by simpa using hm)
  clear hW' hA0 hval0 hcnd hnd hV hA
  obtain ⟨xs0, hs0⟩ := open_ColourChart (hval 0 43 v0 rfl rfl) h0 (fun b off hm => hz b off (by simp [hm]))
  obtain ⟨a1, rfl, -, -, w1⟩ := open_int Try.underlying2 (hval 1 2 v1 rfl rfl) h1
  refine (walk W v0 xs0 hs0 a1 (I64.of_wf w1)).mono fun e W' ⟨he, hg⟩ => ?_
  subst he
  exact ⟨_, rfl, hpost W' hg⟩
set_option maxHeartbeats 8000000 in
theorem jf : joinedFacts Try.prog 4 Try.f4 Rows.fnExactCatchFloatsSpec Rows.fnExactCatchFloatsRow = true := by
  unfold joinedFacts
  simp only [Bool.and_eq_true]
  refine ⟨⟨⟨⟨⟨⟨⟨⟨⟨⟨⟨⟨⟨⟨⟨⟨⟨⟨⟨⟨⟨⟨⟨⟨⟨⟨⟨⟨⟨⟨⟨?_, facts.f2⟩, facts.f3⟩, ?_⟩, ?_⟩, ?_⟩, facts.f7⟩, ?_⟩, facts.f9⟩, ?_⟩, ?_⟩, ?_⟩, ?_⟩, ?_⟩, ?_⟩, ?_⟩, ?_⟩, ?_⟩, ?_⟩, ?_⟩, ?_⟩, ?_⟩, facts.f23⟩, ?_⟩, facts.f25⟩, facts.f26⟩, facts.f27⟩, facts.f28⟩, ?_⟩, ?_⟩, ?_⟩, ?_⟩
  all_goals (as_aux_lemma => kernel_rfl)
theorem over : Rows.fnExactCatchFloatsRow.holds Try.pinned (OpenSpec.ofChange Rows.fnExactCatchFloatsSpec) :=
  OpenClaim.holds_of_wide 4 Try.f4 rfl rfl rfl rfl rfl rfl rfl ⟨rfl, rfl, rfl, rfl, rfl⟩ rfl rfl rfl rfl rfl (by kernel_rfl) Try.func4 jf
    (of_decide_eq_true (by kernel_rfl)) (by unfold Func.isWrapper; first | (rw [if_pos (by decide +kernel)]; kernel_rfl) | (rw [if_neg (by decide +kernel)]; exact ⟨rfl, rfl⟩))
    (fun os started H enc _ => lifted os started H enc)
theorem proved : Rows.FnExactCatchFloatsSaid :=
  over
end Go.Proofs.Ytchfjglofmphfaa.fnExactCatchFloats
