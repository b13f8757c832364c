/- The list on a needle lies apart from its header and from the machine. No condition. -/
import Derived.Test.YtiiodfcbpmkodaaGreatMFn4
set_option linter.unusedSimpArgs false
set_option linter.unusedVariables false
namespace Go.Proofs.YtiiodfcbpmkodaaGreat
open Go.ChangeShapes Go.WideShapes Go.ChangeAt Go.RowKit
theorem MachX.off_hold {w : World} {S : Nat → Prop} {K p : Nat} {m : MachM} {F B C L D : Value} {fs bs : List Value} (h : MachX w S K p m F B C L D fs bs) {b a : Int} {g : Nat} {v : Value}
    (hv : (b = 2 ∧ ∃ c, B = .slice (some ⟨g, 0, none⟩) bs.length c ∧ bs.getD a.toNat (.slice none 0 0) = v ∧ a.toNat < bs.length) ∨ (b = 1 ∧ ∃ c, F = .slice (some ⟨g, 0, none⟩) fs.length c ∧ fs.getD a.toNat (.slice none 0 0) = v ∧ a.toNat < fs.length)) :
    ¬ v.ownBlock = some g ∧ ¬ v.ownBlock = some p ∧ g ≠ p := by
  have P := h.parts
  rcases hv with ⟨-, c, hB, hv, hl⟩ | ⟨-, c, hF, hv, hl⟩
  · have hm : v ∈ bs := by
      rw [List.getD_eq_getElem?_getD, List.getElem?_eq_getElem hl, Option.getD_some] at hv
      exact hv ▸ List.getElem_mem hl
    have oB : B.ownBlock = some g := by rw [hB]; rfl
    exact ⟨fun e => P.b v (by simp [hm]) g oB e, fun e => P.p v (by simp [hm]) p rfl e, fun e => P.p B (by simp) p rfl (e ▸ oB)⟩
  · have hm : v ∈ fs := by
      rw [List.getD_eq_getElem?_getD, List.getElem?_eq_getElem hl, Option.getD_some] at hv
      exact hv ▸ List.getElem_mem hl
    have oF : F.ownBlock = some g := by rw [hF]; rfl
    exact ⟨fun e => P.f v (by simp [hm]) g oF e, fun e => P.p v (by simp [hm]) p rfl e, fun e => P.p F (by simp) p rfl (e ▸ oF)⟩
end Go.Proofs.YtiiodfcbpmkodaaGreat
