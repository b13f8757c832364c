/- A carrier is set; sums, indexes. No condition. -/
import Derived.Test.YtiiodfcbpmkodaaGreatMSlot
set_option linter.unusedSimpArgs false
set_option linter.unusedVariables false
namespace Go.Proofs.YtiiodfcbpmkodaaGreat
open Go.ChangeShapes Go.WideShapes Go.ChangeAt Go.RowKit
section
variable {w : World} {S : Nat → Prop} {K p g j c : Nat} {m : MachM} {F B C L D : Value} {fs bs : List Value} {car : Int}
theorem setCar_nat (m : MachM) (j : Nat) (x : Bool × Int) : setCar m ((j : Int) + 1) x = { m with cs := m.cs.set j x } := by
  unfold setCar
  rw [show ((j : Int) + 1 - 1).toNat = j by omega]
theorem carAt_nat (m : MachM) (j : Nat) : carAt m ((j : Int) + 1) = m.cs.getD j (false, 0) := by
  unfold carAt
  rw [show ((j : Int) + 1 - 1).toNat = j by omega]
theorem MachX.ride (h : MachX w S K p m F B C L D fs bs) (hi : MInv m) (hj : car = j + 1) (hl : j < 4) (hC : C = .slice (some ⟨g, 0, none⟩) 4 c) (x : Int) :
    MachX (w.setCell ⟨g, j * 2 + 1, none⟩ (.int .i64 x)) S K p (setCar m car ((carAt m car).1, x)) F B C L D fs bs := by
  subst hj
  rw [setCar_nat, carAt_nat]
  exact h.set_car (by rw [hi.cl]; exact hC) _ (carCells_at m.cs j x (by rw [hi.cl]; exact hl)) (by simp)
theorem MachX.seat (h : MachX w S K p m F B C L D fs bs) (hi : MInv m) (hj : car = j + 1) (hl : j < 4) (hC : C = .slice (some ⟨g, 0, none⟩) 4 c) (b : Bool) (x : Int) :
    MachX ((w.setCell ⟨g, j * 2, none⟩ (.bool b)).setCell ⟨g, j * 2 + 1, none⟩ (.int .i64 x)) S K p (setCar m car (b, x)) F B C L D fs bs := by
  subst hj
  rw [setCar_nat]
  have h1 := h.set_car (by rw [hi.cl]; exact hC) _ (carCells_in m.cs j b (by rw [hi.cl]; exact hl)) (by simp)
  have h2 := h1.set_car (by simp only [List.length_set]; rw [hi.cl]; exact hC) _ (carCells_at _ j x (by simp only [List.length_set]; rw [hi.cl]; exact hl)) (by simp)
  have he : (m.cs.set j (b, (m.cs.getD j (false, 0)).2)).set j (((m.cs.set j (b, (m.cs.getD j (false, 0)).2)).getD j (false, 0)).1, x) = m.cs.set j (b, x) := by
    have : j < m.cs.length := by rw [hi.cl]; exact hl
    simp [this]
  simp only [he] at h2
  exact h2
theorem MachX.ride_chg (h : MachX w S K p m F B C L D fs bs) (hC : C = .slice (some ⟨g, 0, none⟩) 4 c) (i : Nat) (u : Value) : Chg S w (w.setCell ⟨g, i, none⟩ u) :=
  Chg.setCell (Chg.refl _ _) (.inl (h.own C (by simp) g (by rw [hC]; rfl))) u
end
theorem ixa_car (g n c j : Nat) (h : j < n) (w : World) : (Instr.indexAt 57 (.slice (some ⟨g, 0, none⟩) n c) (.int .i64 (j : Int))).run Tryz.prog w = .ok (.pointer (some ⟨g, j * 2, none⟩)) w := by
  have h0 : (0 : Int) ≤ (j : Int) := by omega
  have h1 : (j : Int) < n := by omega
  go_simp
theorem x_ixa {ρ : Operand → Value} {o : Oper} {w : World} {u1 u2 v : Value} (t : TypeId) (x y : Operand) (ho : o.op = .indexAddr t x y) (hx : ρ x = u1) (hy : ρ y = u2) (h : (Instr.indexAt t u1 u2).run Tryz.prog w = .ok v w) : (execOp ρ o).run Tryz.prog w = .ok (.value v) w := by
  unfold execOp; rw [ho]; simp [hx, hy, h, Result.andThen]
theorem x_sub {ρ : Operand → Value} {o : Oper} {w : World} {a b : Int} (x y : Operand) (ho : o.op = .binOp .sub 2 x y 2) (hx : ρ x = .int .i64 a) (hy : ρ y = .int .i64 b) (h : -9223372036854775808 ≤ a - b ∧ a - b ≤ 9223372036854775807) : (execOp ρ o).run Tryz.prog w = .ok (.value (.int .i64 (a - b))) w := by
  have hw : IntKind.i64.wrap (a - b) = a - b := IntWalk.i64_in _ h
  unfold execOp; rw [ho]; simp [go_sem, hx, hy, hw]
theorem x_subc {ρ : Operand → Value} {o : Oper} {w : World} {a b c : Int} (x y : Operand) (ho : o.op = .binOp .sub 2 x y 2) (hx : ρ x = .int .i64 a) (hy : ρ y = .int .i64 b) (hc : a - b = c) (h : -9223372036854775808 ≤ c ∧ c ≤ 9223372036854775807) : (execOp ρ o).run Tryz.prog w = .ok (.value (.int .i64 c)) w := by
  subst hc; exact x_sub x y ho hx hy h
theorem x_add {ρ : Operand → Value} {o : Oper} {w : World} {a b : Int} (x y : Operand) (ho : o.op = .binOp .add 2 x y 2) (hx : ρ x = .int .i64 a) (hy : ρ y = .int .i64 b) (h : -9223372036854775808 ≤ a + b ∧ a + b ≤ 9223372036854775807) : (execOp ρ o).run Tryz.prog w = .ok (.value (.int .i64 (a + b))) w := by
  have hw : IntKind.i64.wrap (a + b) = a + b := IntWalk.i64_in _ h
  unfold execOp; rw [ho]; simp [go_sem, hx, hy, hw]
theorem x_quo {ρ : Operand → Value} {o : Oper} {w : World} {a b : Int} (x y : Operand) (ho : o.op = .binOp .quo 2 x y 2) (hx : ρ x = .int .i64 a) (hy : ρ y = .int .i64 b) (h : -9223372036854775808 ≤ a.tdiv b ∧ a.tdiv b ≤ 9223372036854775807) (hb : b ≠ 0) : (execOp ρ o).run Tryz.prog w = .ok (.value (.int .i64 (a.tdiv b))) w := by
  have hw : IntKind.i64.wrap (a.tdiv b) = a.tdiv b := IntWalk.i64_in _ h
  unfold execOp; rw [ho]; simp [go_sem, hx, hy, hw, hb]
end Go.Proofs.YtiiodfcbpmkodaaGreat
