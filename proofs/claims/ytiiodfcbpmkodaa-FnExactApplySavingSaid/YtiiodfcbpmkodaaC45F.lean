/- The program's ApplySaving answers as the reference's, for every width, program and saving; what it is given stays as it was; its memory is its own. No condition. -/
import Derived.Test.YtiiodfcbpmkodaaC45
import Derived.Test.YtiiodfcbpmkodaaOpen
import Derived.Test.YtiiodfcbpmkodaaFacts
namespace Go.Proofs.Ytiiodfcbpmkodaa.fnExactApplySaving
open Go.ChangeShapes Go.WideShapes Go.ChangeAt Go.RowKit
set_option linter.unusedVariables false
theorem own : ownKnob Try.prog.godebug = none := facts.own
theorem laidOut : laidOutB Try.prog = true := facts.f2
theorem readable : ∀ t ∈ Try.f6.params.toList, Try.prog.readableRec t = true ∧ t < Try.prog.types.size := by
  have h : (Try.f6.params.toList.all fun t => Try.prog.readableRec t && decide (t < Try.prog.types.size)) = true := by kernel_rfl
  intro t ht
  have h2 := List.all_eq_true.1 h t ht
  rw [Bool.and_eq_true, decide_eq_true_eq] at h2
  exact h2
theorem resT : Try.f6.resultTypes = #[4] := by kernel_rfl
set_option maxRecDepth 100000 in
theorem lifted (os : Os) (started : os.Started) (H : Type) (enc : TypeId × Value → H) :
    ReturnsInHanded {} Try.checked os 6 .any (Rows.fnExactApplySavingSpec.pre6 enc Try.prog Try.f6 Rows.fnExactApplySavingRow.domain false) (Rows.fnExactApplySavingSpec.post enc Try.prog Try.f6 false true false false) := by
  refine returnsInHanded_of_change (C := Try.checked) own started (by kernel_rfl) Try.func6
    (ChangeSpec.witness6 (enc := enc) (C := Try.checked) false ⟨#[], #[.int .i64 0, .slice none 0 0, .agg #[.int .i64 0, .int .i64 0]], []⟩ 8 (by kernel_rfl) (by kernel_rfl) (by kernel_rfl) (by kernel_rfl)) ?_
  intro W base args ds gs before hval0 hW hcnd _
  have hval : ∀ (j : Nat) t v, Try.f6.params[j]? = some t → args[j]? = some v → Value.okWide Try.prog W .any base t v := hval0
  have hW' := hW
  obtain ⟨p, q, hA0, hV, rfl, hfz, hnd⟩ := hW
  have hA : DataW.TrodAll enc Try.prog W 0 (fun _ => true) true Try.f6.params.toList args.toList ds p := hA0
  rw [Try.params6] at hA hval
  obtain ⟨v0, vs0, d0, ds0, p0, q0, hargs, rfl, rfl, h0, r0⟩ := trodAll_cons hA
  obtain ⟨v1, vs1, d1, ds1, p1, q1, rfl, rfl, rfl, h1, r1⟩ := trodAll_cons r0
  obtain ⟨v2, vs2, d2, ds2, p2, q2, rfl, rfl, rfl, h2, r2⟩ := trodAll_cons r1
  obtain ⟨rfl, rfl, rfl⟩ := trodAll_nil r2
  obtain rfl : args = #[v0, v1, v2] := by cases args; simp_all
  obtain ⟨rfl, rfl⟩ := trodVars_none hV
  have hpost : ∀ W', Below W.heap.size W W' → Rows.fnExactApplySavingSpec.post enc Try.prog Try.f6 false true false false W #[v0, v1, v2] (.bool true) W' := fun W' hb =>
    law_post laidOut readable resT Try.underlying4 rfl rfl hW' hb
  have hz : ∀ b off, MemPlace.cell b off ∈ p0 ++ (p1 ++ (p2 ++ [])) → W.frozen? ⟨b, off, none⟩ = false := fun b off hm => hfz b off (by simpa using hm)
  clear hW' hA0 hval0 hcnd hnd hV hA
  obtain ⟨a0, rfl, -, -, w0⟩ := open_int Try.underlying2 (hval 0 2 v0 rfl rfl) h0
  obtain ⟨xs1, hs1⟩ := open_Ops (hval 1 22 v1 rfl rfl) h1 (fun b off hm => hz b off (by simp [hm]))
  obtain ⟨m20, m21, y20, y21, n2, rfl, -, -, hy20, hy21⟩ := Go.Joins.open_agg2 Try.underlying38 (by kernel_rfl) (show Try.prog.cellsOf 38 = 2 by kernel_rfl) (hval 2 38 v2 rfl rfl) h2
  obtain ⟨a2f, e20, -, w2f⟩ := DataW.trod_int Try.underlying2 hy20
  simp only [List.cons.injEq, and_true] at e20
  subst e20
  obtain ⟨a2t, e21, -, w2t⟩ := DataW.trod_int Try.underlying2 hy21
  simp only [List.cons.injEq, and_true] at e21
  subst e21
  refine (walk W a0 (I64.of_wf w0) v1 xs1 hs1 a2f a2t (I64.of_wf w2f) (I64.of_wf w2t)).mono fun e W' ⟨he, hg⟩ => ?_
  subst he
  exact ⟨_, rfl, hpost W' hg⟩
set_option maxHeartbeats 8000000 in
theorem jf : joinedFacts Try.prog 6 Try.f6 Rows.fnExactApplySavingSpec Rows.fnExactApplySavingRow = true := by
  unfold joinedFacts
  simp only [Bool.and_eq_true]
  refine ⟨⟨⟨⟨⟨⟨⟨⟨⟨⟨⟨⟨⟨⟨⟨⟨⟨⟨⟨⟨⟨⟨⟨⟨⟨⟨⟨⟨⟨⟨⟨?_, facts.f2⟩, facts.f3⟩, ?_⟩, ?_⟩, ?_⟩, facts.f7⟩, ?_⟩, facts.f9⟩, ?_⟩, ?_⟩, ?_⟩, ?_⟩, ?_⟩, ?_⟩, ?_⟩, ?_⟩, ?_⟩, ?_⟩, ?_⟩, ?_⟩, ?_⟩, facts.f23⟩, ?_⟩, facts.f25⟩, facts.f26⟩, facts.f27⟩, facts.f28⟩, ?_⟩, ?_⟩, ?_⟩, ?_⟩
  all_goals (as_aux_lemma => kernel_rfl)
theorem over : Rows.fnExactApplySavingRow.holds Try.pinned (OpenSpec.ofChange Rows.fnExactApplySavingSpec) :=
  OpenClaim.holds_of_wide 6 Try.f6 rfl rfl rfl rfl rfl rfl rfl ⟨rfl, rfl, rfl, rfl, rfl⟩ rfl rfl rfl rfl rfl (by kernel_rfl) Try.func6 jf
    (of_decide_eq_true (by kernel_rfl)) (by unfold Func.isWrapper; first | (rw [if_pos (by decide +kernel)]; kernel_rfl) | (rw [if_neg (by decide +kernel)]; exact ⟨rfl, rfl⟩))
    (fun os started H enc _ => lifted os started H enc)
theorem proved : Rows.FnExactApplySavingSaid :=
  over
end Go.Proofs.Ytiiodfcbpmkodaa.fnExactApplySaving
