/- Columns are moved as the law says, for every code. No condition. -/
import Derived.Test.YtplabnjdhkmmkaaFMv
import Derived.Test.YtplabnjdhkmmkaaFacts
import Derived.OpenShut
set_option linter.unusedSimpArgs false
set_option linter.unusedVariables false
set_option maxRecDepth 100000
set_option maxHeartbeats 8000000
namespace Go.Proofs.Ytplabnjdhkmmkaa
open Go.ChangeShapes Go.WideShapes Go.ChangeAt Go.RowKit
theorem open_byts {H : Type} {enc : TypeId × Value → H} {P : Program} {w : World} {t e : TypeId} {v : Value} {d : DataW H} {p : List MemPlace} {base : Nat}
    (ht : P.underlying t = some (.slice e)) (he : P.underlying e = some (.int .u8)) (hC : P.cellsOf e = 1) (hv : Value.okWide P w .any base t v)
    (h : DataW.Trod enc P w 0 (fun _ => true) true t v d p) :
    ∃ (A : Option Addr) (cp : Nat) (bs : List Nat), v = .slice A bs.length cp ∧ (0 < bs.length → ∃ gb go, A = some ⟨gb, go, none⟩ ∧ ∀ i (hi : i < bs.length), w.cell? ⟨gb, go + i, none⟩ = some (.int .u8 (bs[i] : Int)) ∧ bs[i] < 256) := by
  obtain ⟨a0, len, cap, rfl⟩ := okWide_slice ht hv
  obtain ⟨fuel, hf⟩ := h
  rcases open_ints ht he hC hf with ⟨hcs, hx⟩ | ⟨a, len', cap', zs, hcs, _, hl, hm, hlen, hx, hcell, hwz⟩
  · simp [Value.cells] at hcs
    obtain ⟨rfl, rfl, rfl⟩ := hcs
    exact ⟨none, 0, [], rfl, fun hp => absurd hp (by simp)⟩
  · simp [Value.cells] at hcs
    obtain ⟨rfl, rfl, rfl⟩ := hcs
    simp at hlen
    have hzl : ((zs.take len).map Int.toNat).length = len := by simp; omega
    refine ⟨some a, cap, (zs.take len).map Int.toNat, by rw [hzl], fun hp => ?_⟩
    rw [hzl] at hp
    obtain ⟨ab, ao, spot⟩ := a
    have hspot : spot = none := by simpa [Addr.add] using World.cell?_spot (hcell 0 (by omega))
    subst hspot
    refine ⟨ab, ao, rfl, fun i hi => ?_⟩
    rw [hzl] at hi
    have hcj := hcell i (by omega)
    rw [Addr.add_lit] at hcj
    have hb := range_u8 hwz i
    have e : zs[i]?.getD 0 = zs[i]'(by omega) := by simp [List.getElem?_eq_getElem (show i < zs.length by omega)]
    rw [e] at hb
    rw [hcj, List.getD_eq_getElem?_getD, e]
    simp only [List.getElem_map, List.getElem_take]
    refine ⟨?_, by omega⟩
    rw [Int.toNat_of_nonneg hb.1]
end Go.Proofs.Ytplabnjdhkmmkaa
namespace Go.Proofs.Ytplabnjdhkmmkaa.fnMoves
open Go.ChangeShapes Go.WideShapes Go.ChangeAt Go.RowKit
theorem walk (w : World) (A : Option Addr) (cp : Nat) (bs : List Nat) (hrd : 0 < bs.length → ∃ gb go, A = some ⟨gb, go, none⟩ ∧ ∀ i (hi : i < bs.length), w.cell? ⟨gb, go + i, none⟩ = some (.int .u8 (bs[i] : Int)) ∧ bs[i] < 256) :
    Calls Try.prog 3 #[.slice A bs.length cp] w fun e w' => e = .returned (.bool true) ∧ Below w.heap.size w w' := by
  by_cases hl : bs.length ≤ 1048576
  · exact (fnMoves_any w A cp bs ⟨hl, hrd⟩).mono fun e w' ⟨h1, h2⟩ => ⟨h1, Up.below h2⟩
  · have e0 : decide (1048576 < (bs.length : Int)) = true := decide_eq_true (by omega)
    go_enter Try.func3, Try.ntmps3
    go_wp2
    go_ret
    exact ⟨rfl, Below.refl _ _⟩
end Go.Proofs.Ytplabnjdhkmmkaa.fnMoves
namespace Go.Proofs.Ytplabnjdhkmmkaa.fnMoves
open Go.ChangeShapes Go.WideShapes Go.ChangeAt Go.RowKit
theorem own : ownKnob Try.prog.godebug = none := facts.own
theorem laidOut : laidOutB Try.prog = true := facts.f2
theorem readable : ∀ t ∈ Try.f3.params.toList, Try.prog.readableRec t = true ∧ t < Try.prog.types.size := by
  have h : (Try.f3.params.toList.all fun t => Try.prog.readableRec t && decide (t < Try.prog.types.size)) = true := by kernel_rfl
  intro t ht
  have h2 := List.all_eq_true.1 h t ht
  rw [Bool.and_eq_true, decide_eq_true_eq] at h2
  exact h2
theorem resT : Try.f3.resultTypes = #[4] := by kernel_rfl
theorem lifted (os : Os) (started : os.Started) (H : Type) (enc : TypeId × Value → H) :
    ReturnsInHanded {} Try.checked os 3 .any (Rows.fnMovesSpec.pre6 enc Try.prog Try.f3 Rows.fnMovesRow.domain false) (Rows.fnMovesSpec.post enc Try.prog Try.f3 false true false false) := by
  refine returnsInHanded_of_change (C := Try.checked) own started (by kernel_rfl) Try.func3
    (ChangeSpec.witness6 (enc := enc) (C := Try.checked) false ⟨#[], #[.slice none 0 0], []⟩ 8 (by kernel_rfl) (by kernel_rfl) (by kernel_rfl) (by kernel_rfl)) ?_
  intro W base args ds gs before hval0 hW hcnd _
  have hval : ∀ (j : Nat) t v, Try.f3.params[j]? = some t → args[j]? = some v → Value.okWide Try.prog W .any base t v := hval0
  have hW' := hW
  obtain ⟨p, q, hA0, hV, rfl, hfz, hnd⟩ := hW
  have hA : DataW.TrodAll enc Try.prog W 0 (fun _ => true) true Try.f3.params.toList args.toList ds p := hA0
  rw [Try.params3] at hA hval
  obtain ⟨v0, vs0, d0, ds0, p0, q0, hargs, rfl, rfl, h0, r0⟩ := trodAll_cons hA
  obtain ⟨rfl, rfl, rfl⟩ := trodAll_nil r0
  obtain rfl : args = #[v0] := by cases args; simp_all
  obtain ⟨rfl, rfl⟩ := trodVars_none hV
  have hpost : ∀ W', Below W.heap.size W W' → Rows.fnMovesSpec.post enc Try.prog Try.f3 false true false false W #[v0] (.bool true) W' := fun W' hb =>
    law_post laidOut readable resT Try.underlying4 rfl rfl hW' hb
  have hz : ∀ b off, MemPlace.cell b off ∈ p0 ++ [] → W.frozen? ⟨b, off, none⟩ = false := fun b off hm => hfz b off (by simpa using hm)
  clear hW' hA0 hval0 hcnd hnd hV hA
  obtain ⟨A, cp, bs, rfl, hrd⟩ := open_byts Try.underlying22 Try.underlying5 (by kernel_rfl) (hval 0 22 v0 rfl rfl) h0
  refine (walk W A cp bs hrd).mono fun e W' ⟨he, hg⟩ => ?_
  subst he
  exact ⟨_, rfl, hpost W' hg⟩
theorem jf : joinedFacts Try.prog 3 Try.f3 Rows.fnMovesSpec Rows.fnMovesRow = true := by
  unfold joinedFacts
  simp only [Bool.and_eq_true]
  refine ⟨⟨⟨⟨⟨⟨⟨⟨⟨⟨⟨⟨⟨⟨⟨⟨⟨⟨⟨⟨⟨⟨⟨⟨⟨⟨⟨⟨⟨⟨⟨?_, facts.f2⟩, facts.f3⟩, ?_⟩, ?_⟩, ?_⟩, facts.f7⟩, ?_⟩, facts.f9⟩, ?_⟩, ?_⟩, ?_⟩, ?_⟩, ?_⟩, ?_⟩, ?_⟩, ?_⟩, ?_⟩, ?_⟩, ?_⟩, ?_⟩, ?_⟩, facts.f23⟩, ?_⟩, facts.f25⟩, facts.f26⟩, facts.f27⟩, facts.f28⟩, ?_⟩, ?_⟩, ?_⟩, ?_⟩
  all_goals (as_aux_lemma => kernel_rfl)
theorem over : Rows.fnMovesRow.holds Try.pinned (OpenSpec.ofChange Rows.fnMovesSpec) :=
  OpenClaim.holds_of_wide 3 Try.f3 rfl rfl rfl rfl rfl rfl rfl ⟨rfl, rfl, rfl, rfl, rfl⟩ rfl rfl rfl rfl rfl (by kernel_rfl) Try.func3 jf
    (of_decide_eq_true (by kernel_rfl)) (by unfold Func.isWrapper; first | (rw [if_pos (by decide +kernel)]; kernel_rfl) | (rw [if_neg (by decide +kernel)]; exact ⟨rfl, rfl⟩))
    (fun os started H enc _ => lifted os started H enc)
theorem proved : Rows.FnMovesSaid :=
  over
end Go.Proofs.Ytplabnjdhkmmkaa.fnMoves
