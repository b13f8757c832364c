/- The layout of a row holds what the law asks of it, for every code. No condition. -/
import Derived.Test.YtnjfhpgmogopnaaLay
import Derived.Test.YtnjfhpgmogopnaaFacts
import Derived.OpenShut
namespace Go.Proofs.Ytnjfhpgmogopnaa
open Go.ChangeShapes Go.WideShapes Go.ChangeAt Go.RowKit
theorem open_byts {H : Type} {enc : TypeId × Value → H} {P : Program} {w : World} {t e : TypeId} {v : Value} {d : DataW H} {p : List MemPlace} {base : Nat}
    (ht : P.underlying t = some (.slice e)) (he : P.underlying e = some (.int .u8)) (hC : P.cellsOf e = 1) (hv : Value.okWide P w .any base t v)
    (h : DataW.Trod enc P w 0 (fun _ => true) true t v d p) :
    ∃ (A : Option Addr) (cp : Nat) (bs : List Nat), v = .slice A bs.length cp ∧ (0 < bs.length → ∃ gb go, A = some ⟨gb, go, none⟩ ∧ ∀ i (hi : i < bs.length), w.cell? ⟨gb, go + i, none⟩ = some (.int .u8 (bs[i] : Int)) ∧ bs[i] < 256) := by
  obtain ⟨a0, len, cap, rfl⟩ := okWide_slice ht hv
  obtain ⟨fuel, hf⟩ := h
  rcases open_ints ht he hC hf with ⟨hcs, hx⟩ | ⟨a, len', cap', zs, hcs, _, hl, hm, hlen, hx, hcell, hwz⟩
  · simp [Value.cells] at hcs
    obtain ⟨rfl, rfl, rfl⟩ := hcs
    exact ⟨none, 0, [], rfl, fun hp => absurd hp (by simp)⟩
  · simp [Value.cells] at hcs
    obtain ⟨rfl, rfl, rfl⟩ := hcs
    simp at hlen
    have hzl : ((zs.take len).map Int.toNat).length = len := by simp; omega
    refine ⟨some a, cap, (zs.take len).map Int.toNat, by rw [hzl], fun hp => ?_⟩
    rw [hzl] at hp
    obtain ⟨ab, ao, spot⟩ := a
    have hspot : spot = none := by simpa [Addr.add] using World.cell?_spot (hcell 0 (by omega))
    subst hspot
    refine ⟨ab, ao, rfl, fun i hi => ?_⟩
    rw [hzl] at hi
    have hcj := hcell i (by omega)
    rw [Addr.add_lit] at hcj
    have hb := range_u8 hwz i
    have e : zs[i]?.getD 0 = zs[i]'(by omega) := by simp [List.getElem?_eq_getElem (show i < zs.length by omega)]
    rw [e] at hb
    rw [hcj, List.getD_eq_getElem?_getD, e]
    simp only [List.getElem_map, List.getElem_take]
    refine ⟨?_, by omega⟩
    rw [Int.toNat_of_nonneg hb.1]
end Go.Proofs.Ytnjfhpgmogopnaa
namespace Go.Proofs.Ytnjfhpgmogopnaa.fnLayout
open Go.ChangeShapes Go.WideShapes Go.ChangeAt Go.RowKit
set_option linter.unusedVariables false
theorem own : ownKnob Try.prog.godebug = none := facts.own
theorem laidOut : laidOutB Try.prog = true := facts.f2
theorem readable : ∀ t ∈ Try.f10.params.toList, Try.prog.readableRec t = true ∧ t < Try.prog.types.size := by
  have h : (Try.f10.params.toList.all fun t => Try.prog.readableRec t && decide (t < Try.prog.types.size)) = true := by kernel_rfl
  intro t ht
  have h2 := List.all_eq_true.1 h t ht
  rw [Bool.and_eq_true, decide_eq_true_eq] at h2
  exact h2
theorem resT : Try.f10.resultTypes = #[4] := by kernel_rfl
set_option maxRecDepth 100000 in
theorem lifted (os : Os) (started : os.Started) (H : Type) (enc : TypeId × Value → H) :
    ReturnsInHanded {} Try.checked os 10 .any (Rows.fnLayoutSpec.pre6 enc Try.prog Try.f10 Rows.fnLayoutRow.domain false) (Rows.fnLayoutSpec.post enc Try.prog Try.f10 false true false false) := by
  refine returnsInHanded_of_change (C := Try.checked) own started (by kernel_rfl) Try.func10
    (ChangeSpec.witness6 (enc := enc) (C := Try.checked) false ⟨#[], #[.slice none 0 0], []⟩ 8 (by kernel_rfl) (by kernel_rfl) (by kernel_rfl) (by kernel_rfl)) ?_
  intro W base args ds gs before hval0 hW hcnd _
  have hval : ∀ (j : Nat) t v, Try.f10.params[j]? = some t → args[j]? = some v → Value.okWide Try.prog W .any base t v := hval0
  have hW' := hW
  obtain ⟨p, q, hA0, hV, rfl, hfz, hnd⟩ := hW
  have hA : DataW.TrodAll enc Try.prog W 0 (fun _ => true) true Try.f10.params.toList args.toList ds p := hA0
  rw [Try.params10] at hA hval
  obtain ⟨v0, vs0, d0, ds0, p0, q0, hargs, rfl, rfl, h0, r0⟩ := trodAll_cons hA
  obtain ⟨rfl, rfl, rfl⟩ := trodAll_nil r0
  obtain rfl : args = #[v0] := by cases args; simp_all
  obtain ⟨rfl, rfl⟩ := trodVars_none hV
  have hpost : ∀ W', Below W.heap.size W W' → Rows.fnLayoutSpec.post enc Try.prog Try.f10 false true false false W #[v0] (.bool true) W' := fun W' hb =>
    law_post laidOut readable resT Try.underlying4 rfl rfl hW' hb
  have hz : ∀ b off, MemPlace.cell b off ∈ p0 ++ [] → W.frozen? ⟨b, off, none⟩ = false := fun b off hm => hfz b off (by simpa using hm)
  clear hW' hA0 hval0 hcnd hnd hV hA
  obtain ⟨A, cp, bs, rfl, hrd⟩ := open_byts Try.underlying84 Try.underlying5 (by kernel_rfl) (hval 0 84 v0 rfl rfl) h0
  refine (walk W A cp bs hrd).mono fun e W' ⟨he, hg⟩ => ?_
  subst he
  exact ⟨_, rfl, hpost W' hg⟩
set_option maxHeartbeats 8000000 in
theorem jf : joinedFacts Try.prog 10 Try.f10 Rows.fnLayoutSpec Rows.fnLayoutRow = true := by
  unfold joinedFacts
  simp only [Bool.and_eq_true]
  refine ⟨⟨⟨⟨⟨⟨⟨⟨⟨⟨⟨⟨⟨⟨⟨⟨⟨⟨⟨⟨⟨⟨⟨⟨⟨⟨⟨⟨⟨⟨⟨?_, facts.f2⟩, facts.f3⟩, ?_⟩, ?_⟩, ?_⟩, facts.f7⟩, ?_⟩, facts.f9⟩, ?_⟩, ?_⟩, ?_⟩, ?_⟩, ?_⟩, ?_⟩, ?_⟩, ?_⟩, ?_⟩, ?_⟩, ?_⟩, ?_⟩, ?_⟩, facts.f23⟩, ?_⟩, facts.f25⟩, facts.f26⟩, facts.f27⟩, facts.f28⟩, ?_⟩, ?_⟩, ?_⟩, ?_⟩
  all_goals (as_aux_lemma => kernel_rfl)
theorem over : Rows.fnLayoutRow.holds Try.pinned (OpenSpec.ofChange Rows.fnLayoutSpec) :=
  OpenClaim.holds_of_wide 10 Try.f10 rfl rfl rfl rfl rfl rfl rfl ⟨rfl, rfl, rfl, rfl, rfl⟩ rfl rfl rfl rfl rfl (by kernel_rfl) Try.func10 jf
    (of_decide_eq_true (by kernel_rfl)) (by unfold Func.isWrapper; first | (rw [if_pos (by decide +kernel)]; kernel_rfl) | (rw [if_neg (by decide +kernel)]; exact ⟨rfl, rfl⟩))
    (fun os started H enc _ => lifted os started H enc)
theorem proved : Rows.FnLayoutSaid :=
  over
end Go.Proofs.Ytnjfhpgmogopnaa.fnLayout
