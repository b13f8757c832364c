/- The program's tests on machines: facing needles, carriers, codes. No condition. Whether the carrier of an operation fits. No condition. The program's code of an operation on a machine. No condition. The list on a needle lies apart from its header and from the machine. No condition. -/
import Derived.Test.YtplabnjdhkmmkaaPF12
import Derived.Deep.DrawnRows
import Derived.Laws.ResultCell
section
set_option linter.unusedSimpArgs false
set_option linter.unusedVariables false
namespace Go.Proofs.Ytplabnjdhkmmkaa
open Go.ChangeShapes Go.WideShapes Go.ChangeAt Go.RowKit
attribute [local go_sem ↓] Go.wp_at_zero Go.wp_at_succ
end Go.Proofs.Ytplabnjdhkmmkaa
end
section
set_option linter.unusedSimpArgs false
set_option linter.unusedVariables false
namespace Go.Proofs.Ytplabnjdhkmmkaa
open Go.ChangeShapes Go.WideShapes Go.ChangeAt Go.RowKit
attribute [local go_sem ↓] Go.wp_at_zero Go.wp_at_succ
/-- a carrier in its row -/
structure CarH (w : World) (p : Nat) (car : Int) (st : Bool) (pl : Int) (g j c : Nat) : Prop where
  ec : car = j + 1
  jl : j < 4
  cc : 4 ≤ c ∧ c ≤ 9223372036854775807
  hdr : CellU w ⟨p, 4, none⟩ (.slice (some ⟨g, 0, none⟩) 4 c)
  a : CellU w ⟨g, j * 2, none⟩ (.bool st)
  b : CellU w ⟨g, j * 2 + 1, none⟩ (.int .i64 pl)
theorem CarH.up {w w' : World} {p g j c : Nat} {car pl : Int} {st : Bool} (h : CarH w p car st pl g j c) (k : Up w w') : CarH w' p car st pl g j c := ⟨h.ec, h.jl, h.cc, h.hdr.up k, h.a.up k, h.b.up k⟩
theorem MachX.car {w : World} {S : Nat → Prop} {K p : Nat} {m : MachM} {F B C L D : Value} {fs bs : List Value} (h : MachX w S K p m F B C L D fs bs) (hi : MInv m) {car : Int} (hc : 1 ≤ car ∧ car ≤ 4) :
    ∃ g j c, CarH w p car (carAt m car).1 (carAt m car).2 g j c ∧ C = .slice (some ⟨g, 0, none⟩) 4 c := by
  have hcl := hi.cl
  obtain ⟨g, c, hC, hc1, hc2, hg, hcs⟩ := ownsRow_some h.c (by omega)
  rw [hcl] at hC hc1
  have hl : (carCells m.cs).length = 8 := by
    have := h.c.1
    omega
  obtain ⟨j, rfl⟩ : ∃ j : Nat, car = j + 1 := ⟨(car - 1).toNat, by omega⟩
  have hj : j < 4 := by omega
  obtain ⟨q1, q2⟩ := carCells_get m.cs j (by omega)
  have e0 : carAt m ((j : Int) + 1) = m.cs.getD j (false, 0) := by unfold carAt; rw [show ((j : Int) + 1 - 1).toNat = j by omega]
  rw [e0]
  refine ⟨g, j, c, ⟨rfl, hj, ⟨hc1, by unfold Go.maxLen at hc2; omega⟩, hC ▸ h.c4, ?_, ?_⟩, hC⟩
  · have k1 := hcs (j * 2) (by omega)
    have k2 : (carCells m.cs)[j * 2]'(by omega) = .bool (m.cs.getD j (false, 0)).1 := by
      rw [List.getElem?_eq_getElem (by omega)] at q1; exact Option.some.inj q1
    rwa [k2] at k1
  · have k1 := hcs (j * 2 + 1) (by omega)
    have k2 : (carCells m.cs)[j * 2 + 1]'(by omega) = .int .i64 (m.cs.getD j (false, 0)).2 := by
      rw [List.getElem?_eq_getElem (by omega)] at q2; exact Option.some.inj q2
    rwa [k2] at k1
theorem cell_atM {w : World} {cs : Array Value} {e : TypeId} {g t : Nat} {u : Value} (h : g = w.heap.size) (hu : cs[t]? = some u) : (w.alloc (.cells cs e)).cell? ⟨g, t, none⟩ = some u := by
  subst h
  rw [cell_new]; exact hu
end Go.Proofs.Ytplabnjdhkmmkaa
end
section
set_option linter.unusedSimpArgs false
set_option linter.unusedVariables false
namespace Go.Proofs.Ytplabnjdhkmmkaa
open Go.ChangeShapes Go.WideShapes Go.ChangeAt Go.RowKit
attribute [local go_sem ↓] Go.wp_at_zero Go.wp_at_succ
end Go.Proofs.Ytplabnjdhkmmkaa
end
section
set_option linter.unusedSimpArgs false
set_option linter.unusedVariables false
namespace Go.Proofs.Ytplabnjdhkmmkaa
open Go.ChangeShapes Go.WideShapes Go.ChangeAt Go.RowKit
end Go.Proofs.Ytplabnjdhkmmkaa
end
