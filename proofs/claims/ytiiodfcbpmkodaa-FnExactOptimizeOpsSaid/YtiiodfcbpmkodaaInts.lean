/- Contracts of the laws' own helpers on slices of int64: equal, marked, held, copied. No condition but room for the numbers. -/
import Derived.Test.YtiiodfcbpmkodaaMem
set_option linter.unusedSimpArgs false
set_option linter.unusedVariables false
namespace Go.Proofs.Ytiiodfcbpmkodaa
open Go.ChangeShapes Go.WideShapes Go.ChangeAt Go.RowKit
def marks (k : Int) (n : Nat) : List Int := (List.range n).map fun i : Nat => (k + i : Int)
theorem marks_length (k : Int) (n : Nat) : (marks k n).length = n := by simp [marks]
/-- a slice of int64 that bears the marks from k on -/
def MInts (w : World) (S : Nat → Prop) (v : Value) (xs : List Int) (k : Int) : Prop := Ints w S v (marks k xs.length)
theorem MInts.keep {S T : Nat → Prop} {w w' : World} {v : Value} {xs : List Int} {k : Int} (h : MInts w S v xs k) (g : Chg T w w') (hd : ∀ b, b < w.heap.size → S b → ¬ T b) : MInts w' S v xs k := Ints.keep h g hd
theorem MInts.up {S : Nat → Prop} {w w' : World} {v : Value} {xs : List Int} {k : Int} (h : MInts w S v xs k) (g : Up w w') : MInts w' S v xs k := Ints.up h g
theorem Ints.shape {w : World} {S : Nat → Prop} {v : Value} {xs : List Int} (h : Ints w S v xs) : ∃ A c, v = .slice A xs.length c ∧ xs.length ≤ c ∧ c ≤ 9223372036854775807 ∧ (A = none → c = 0) :=
  let ⟨A, c, h1, h2, h3, _, _, h4⟩ := h; ⟨A, c, h1, h2, h3, h4⟩
theorem info2 : (Try.prog.info? 2).map (fun i => (i.zero, i.size, i.bytes)) = some (some (.int .i64 0), 1, 8) := by kernel_rfl
end Go.Proofs.Ytiiodfcbpmkodaa
