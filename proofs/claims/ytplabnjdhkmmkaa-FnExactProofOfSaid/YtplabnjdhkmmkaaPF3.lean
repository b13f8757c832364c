/- Moves as data: slices of them; the laws' own helpers on them: equal, marked, held. No condition but room for the numbers. Operations as data: slices of them; the laws' own helpers on them: equal, marked, held. No condition but room for the numbers. Rows under construction: slices of operations to which the call appends. No condition but room. Contracts of ValidPlaces and of the reference's l21Places: whether a list are needles of columns. No condition. The operations with which loops go from a front needle to another one. Condition: small needles. -/
import Derived.Test.YtplabnjdhkmmkaaPF2
import Derived.StillTailTactics
import Derived.Laws.AppendOwnNone
section
set_option linter.unusedSimpArgs false
set_option linter.unusedVariables false
namespace Go.Proofs.Ytplabnjdhkmmkaa
open Go.ChangeShapes Go.WideShapes Go.ChangeAt Go.RowKit
structure MoveM where
  fr : Int
  to : Int
def MoveM.cells (x : MoveM) : List Value := [.int .i64 x.fr, .int .i64 x.to]
def MoveM.ok (x : MoveM) : Prop := I64 x.fr ∧ I64 x.to
theorem MoveM.cells_length (x : MoveM) : x.cells.length = 2 := rfl
abbrev MoveM.val (x : MoveM) : Value := .agg #[.int .i64 x.fr, .int .i64 x.to]
/-- a slice that reads as the list xs -/
def Moves (w : World) (S : Nat → Prop) (v : Value) (xs : List MoveM) : Prop := Raw w S 2 v xs.length (xs.flatMap MoveM.cells) ∧ ∀ x ∈ xs, x.ok
section
variable {S T : Nat → Prop} {w w' : World} {v : Value} {xs : List MoveM}
theorem Moves.keep (h : Moves w S v xs) (g : Chg T w w') (hd : ∀ b, b < w.heap.size → S b → ¬ T b) : Moves w' S v xs := ⟨h.1.keep g hd, h.2⟩
theorem Moves.up (h : Moves w S v xs) (g : Up w w') : Moves w' S v xs := ⟨h.1.up g, h.2⟩
theorem Moves.mono (h : Moves w S v xs) (hs : ∀ b, b < w.heap.size → S b → T b) : Moves w T v xs := ⟨h.1.mono hs, h.2⟩
theorem Moves.shape (h : Moves w S v xs) : ∃ A c, v = .slice A xs.length c ∧ xs.length ≤ c ∧ c ≤ 9223372036854775807 ∧ (A = none → c = 0) := h.1.shape
theorem Moves.nil (w : World) (S : Nat → Prop) (c : Nat) (A : Option Addr) (hc : c ≤ 9223372036854775807) (hA : A = none → c = 0 := by simp) : Moves w S (.slice A 0 c) [] := ⟨Raw.nil w S 2 c A hc hA, by simp⟩
theorem Moves.at_ (h : Moves w S v xs) {i : Nat} (hi : i < xs.length) : ∃ b o c, v = .slice (some ⟨b, o, none⟩) xs.length c ∧ S b ∧ b < w.heap.size ∧
    ∀ j u, (xs[i].cells)[j]? = some u → w.cell? ⟨b, o + i * 2 + j, none⟩ = some u ∧ w.frozen? ⟨b, o + i * 2 + j, none⟩ = false := Raw.at_ MoveM.cells_length h.1 hi
end
def MMoves (w : World) (S : Nat → Prop) (v : Value) (xs : List MoveM) (k : Int) : Prop := Raw w S 2 v xs.length (markCells k (xs.length * 2))
theorem MMoves.keep {S T : Nat → Prop} {w w' : World} {v : Value} {xs : List MoveM} {k : Int} (h : MMoves w S v xs k) (g : Chg T w w') (hd : ∀ b, b < w.heap.size → S b → ¬ T b) : MMoves w' S v xs k := Raw.keep h g hd
theorem MMoves.up {S : Nat → Prop} {w w' : World} {v : Value} {xs : List MoveM} {k : Int} (h : MMoves w S v xs k) (g : Up w w') : MMoves w' S v xs k := Raw.up h g
/-- a slice of the call's own, from block base on -/
def OwnMoves (w : World) (base : Nat) (v : Value) (xs : List MoveM) : Prop :=
  w.ownsRow base 48 2 v xs.length (xs.flatMap MoveM.cells) ∧ ∀ x ∈ xs, x.ok
theorem OwnMoves.nil (w : World) (base : Nat) : OwnMoves w base (.slice none 0 0) [] := ⟨World.ownsRow_nil _ _ _ _, by simp⟩
theorem OwnMoves.made (w : World) (base : Nat) (hb : base ≤ w.heap.size) : OwnMoves (w.alloc (.cells #[] 48)) base (.slice (some ⟨w.heap.size, 0, none⟩) 0 0) [] :=
  ⟨World.ownsRow_made w _ 0 hb (by unfold Go.maxLen; omega) (by simp), by simp⟩
theorem OwnMoves.alloc {w : World} {base : Nat} {v : Value} {xs : List MoveM} (h : OwnMoves w base v xs) (o : Obj) : OwnMoves (w.alloc o) base v xs := ⟨h.1.alloc o, h.2⟩
theorem OwnMoves.kept {w w' : World} {base : Nat} {v : Value} {xs : List MoveM} {S : Nat → Prop} (h : OwnMoves w base v xs) (k : Chg S w w') (hS : ∀ g, v.ownBlock = some g → ¬ S g) : OwnMoves w' base v xs := by
  refine ⟨⟨h.1.1, ?_⟩, h.2⟩
  rcases h.1.2 with h2 | ⟨g, cap, cur, rfl, hg, hh, r⟩
  · exact Or.inl h2
  · exact Or.inr ⟨g, cap, cur, rfl, hg, (k.block g (Array.getElem?_eq_some_iff.1 hh).1 (hS g rfl)).trans hh, r⟩
theorem OwnMoves.up {w w' : World} {base : Nat} {v : Value} {xs : List MoveM} (h : OwnMoves w base v xs) (k : Up w w') : OwnMoves w' base v xs := h.kept k fun _ _ h => h
theorem OwnMoves.rd {w : World} {base : Nat} {v : Value} {xs : List MoveM} (h : OwnMoves w base v xs) : Moves w (New base w.heap.size) v xs := ⟨Raw.of_own h.1, h.2⟩
theorem OwnMoves.lt {w : World} {base : Nat} {v : Value} {xs : List MoveM} (h : OwnMoves w base v xs) {g : Nat} (hg : v.ownBlock = some g) : base ≤ g ∧ g < w.heap.size := h.1.lt g hg
end Go.Proofs.Ytplabnjdhkmmkaa
end
section
set_option linter.unusedSimpArgs false
set_option linter.unusedVariables false
namespace Go.Proofs.Ytplabnjdhkmmkaa
open Go.ChangeShapes Go.WideShapes Go.ChangeAt Go.RowKit
/-- an operation: Kind, Dir, From (Bed, At), To (Bed, At), Carrier, Rack -/
structure OpM where
  kind : Int
  dir : Int
  fb : Int
  fa : Int
  tb : Int
  ta : Int
  car : Int
  rack : Int
def OpM.cells (x : OpM) : List Value := [.int .i64 x.kind, .int .i64 x.dir, .int .i64 x.fb, .int .i64 x.fa, .int .i64 x.tb, .int .i64 x.ta, .int .i64 x.car, .int .i64 x.rack]
def OpM.ok (x : OpM) : Prop := I64 x.kind ∧ I64 x.dir ∧ I64 x.fb ∧ I64 x.fa ∧ I64 x.tb ∧ I64 x.ta ∧ I64 x.car ∧ I64 x.rack
theorem OpM.cells_length (x : OpM) : x.cells.length = 8 := rfl
abbrev OpM.val (x : OpM) : Value := .agg #[.int .i64 x.kind, .int .i64 x.dir, .int .i64 x.fb, .int .i64 x.fa, .int .i64 x.tb, .int .i64 x.ta, .int .i64 x.car, .int .i64 x.rack]
/-- a slice of operations that reads as the list xs -/
def Ops (w : World) (S : Nat → Prop) (v : Value) (xs : List OpM) : Prop := Raw w S 8 v xs.length (xs.flatMap OpM.cells) ∧ ∀ x ∈ xs, x.ok
section
variable {S T : Nat → Prop} {w w' : World} {v : Value} {xs : List OpM}
theorem Ops.keep (h : Ops w S v xs) (g : Chg T w w') (hd : ∀ b, b < w.heap.size → S b → ¬ T b) : Ops w' S v xs := ⟨h.1.keep g hd, h.2⟩
theorem Ops.up (h : Ops w S v xs) (g : Up w w') : Ops w' S v xs := ⟨h.1.up g, h.2⟩
theorem Ops.mono (h : Ops w S v xs) (hs : ∀ b, b < w.heap.size → S b → T b) : Ops w T v xs := ⟨h.1.mono hs, h.2⟩
theorem Ops.shape (h : Ops w S v xs) : ∃ A c, v = .slice A xs.length c ∧ xs.length ≤ c ∧ c ≤ 9223372036854775807 ∧ (A = none → c = 0) := h.1.shape
theorem Ops.nil (w : World) (S : Nat → Prop) (c : Nat) (A : Option Addr) (hc : c ≤ 9223372036854775807) (hA : A = none → c = 0 := by simp) : Ops w S (.slice A 0 c) [] := ⟨Raw.nil w S 8 c A hc hA, by simp⟩
/-- an element's cells -/
theorem Ops.at_ (h : Ops w S v xs) {i : Nat} (hi : i < xs.length) : ∃ b o c, v = .slice (some ⟨b, o, none⟩) xs.length c ∧ S b ∧ b < w.heap.size ∧
    ∀ j u, (xs[i].cells)[j]? = some u → w.cell? ⟨b, o + i * 8 + j, none⟩ = some u ∧ w.frozen? ⟨b, o + i * 8 + j, none⟩ = false := Raw.at_ OpM.cells_length h.1 hi
end
/-- the words under which the laws' walks know them -/
def MOps (w : World) (S : Nat → Prop) (v : Value) (xs : List OpM) (k : Int) : Prop := Raw w S 8 v xs.length (markCells k (xs.length * 8))
theorem MOps.keep {S T : Nat → Prop} {w w' : World} {v : Value} {xs : List OpM} {k : Int} (h : MOps w S v xs k) (g : Chg T w w') (hd : ∀ b, b < w.heap.size → S b → ¬ T b) : MOps w' S v xs k := Raw.keep h g hd
theorem MOps.up {S : Nat → Prop} {w w' : World} {v : Value} {xs : List OpM} {k : Int} (h : MOps w S v xs k) (g : Up w w') : MOps w' S v xs k := Raw.up h g
end Go.Proofs.Ytplabnjdhkmmkaa
end
section
set_option linter.unusedSimpArgs false
set_option linter.unusedVariables false
namespace Go.Proofs.Ytplabnjdhkmmkaa
open Go.ChangeShapes Go.WideShapes Go.ChangeAt Go.RowKit
/-- a slice of operations of the call's own, from block base on -/
def OwnO (w : World) (base : Nat) (v : Value) (xs : List OpM) : Prop :=
  w.ownsRow base 76 8 v xs.length (xs.flatMap OpM.cells) ∧ ∀ x ∈ xs, x.ok
theorem OwnO.nil (w : World) (base : Nat) : OwnO w base (.slice none 0 0) [] := ⟨World.ownsRow_nil _ _ _ _, by simp⟩
theorem OwnO.made (w : World) (base : Nat) (hb : base ≤ w.heap.size) : OwnO (w.alloc (.cells #[] 76)) base (.slice (some ⟨w.heap.size, 0, none⟩) 0 0) [] :=
  ⟨World.ownsRow_made w _ 0 hb (by unfold Go.maxLen; omega) (by simp), by simp⟩
/-- a literal of some elements -/
theorem OwnO.lit {w : World} {base g : Nat} {arr : Array Value} {xs : List OpM} (hh : w.heap[g]? = some (.cells arr 76 (0, 0))) (ha : arr.toList = xs.flatMap OpM.cells) (hb : base ≤ g) (hl : xs.length ≤ 1000) (hok : ∀ x ∈ xs, x.ok) :
    OwnO w base (.slice (some ⟨g, 0, none⟩) xs.length xs.length) xs := by
  have hf := flat_length OpM.cells 8 OpM.cells_length xs
  refine ⟨⟨hf, .inr ⟨g, xs.length, arr, rfl, hb, hh, Nat.le_refl _, by unfold Go.maxLen; omega, ?_, ?_⟩⟩, hok⟩
  · rw [← hf, ← ha, Array.length_toList]
  · rw [← hf, ← ha, List.take_of_length_le (Nat.le_refl _)]
theorem OwnO.alloc {w : World} {base : Nat} {v : Value} {xs : List OpM} (h : OwnO w base v xs) (o : Obj) : OwnO (w.alloc o) base v xs := ⟨h.1.alloc o, h.2⟩
theorem OwnO.kept {w w' : World} {base : Nat} {v : Value} {xs : List OpM} {S : Nat → Prop} (h : OwnO w base v xs) (k : Chg S w w') (hS : ∀ g, v.ownBlock = some g → ¬ S g) : OwnO w' base v xs := by
  refine ⟨⟨h.1.1, ?_⟩, h.2⟩
  rcases h.1.2 with h2 | ⟨g, cap, cur, rfl, hg, hh, r⟩
  · exact Or.inl h2
  · exact Or.inr ⟨g, cap, cur, rfl, hg, (k.block g (Array.getElem?_eq_some_iff.1 hh).1 (hS g rfl)).trans hh, r⟩
theorem OwnO.up {w w' : World} {base : Nat} {v : Value} {xs : List OpM} (h : OwnO w base v xs) (k : Up w w') : OwnO w' base v xs := h.kept k fun _ _ h => h
theorem OwnO.ops {w : World} {base : Nat} {v : Value} {xs : List OpM} (h : OwnO w base v xs) : Ops w (New base w.heap.size) v xs := ⟨Raw.of_own h.1, h.2⟩
theorem OwnO.lt {w : World} {base : Nat} {v : Value} {xs : List OpM} (h : OwnO w base v xs) {g : Nat} (hg : v.ownBlock = some g) : base ≤ g ∧ g < w.heap.size := h.1.lt g hg
end Go.Proofs.Ytplabnjdhkmmkaa
end
section
set_option linter.unusedSimpArgs false
set_option linter.unusedVariables false
namespace Go.Proofs.Ytplabnjdhkmmkaa
open Go.ChangeShapes Go.WideShapes Go.ChangeAt Go.RowKit
/-- the first j numbers are needles in ascending order (twice: equal ones are let in) -/
def placesTo (twice : Bool) (xs : List Int) (j : Nat) : Prop :=
  ∀ i (_ : i < xs.length), i < j → 0 ≤ xs[i] ∧ xs[i] ≤ 23 ∧ (∀ (_ : 0 < i), xs[i - 1] < xs[i] ∨ (twice = true ∧ xs[i - 1] = xs[i]))
instance (twice : Bool) (xs : List Int) (j : Nat) : Decidable (placesTo twice xs j) := inferInstanceAs (Decidable (∀ i, ∀ (_ : i < xs.length), i < j → _))
end Go.Proofs.Ytplabnjdhkmmkaa
end
section
set_option linter.unusedSimpArgs false
set_option linter.unusedVariables false
namespace Go.Proofs.Ytplabnjdhkmmkaa
open Go.ChangeShapes Go.WideShapes Go.ChangeAt Go.RowKit
end Go.Proofs.Ytplabnjdhkmmkaa
end
