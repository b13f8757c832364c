/- Moves as data: slices of them; the laws' own helpers on them: equal, marked, held. No condition but room for the numbers. -/
import Derived.Test.YtgdcffbakjfacaaDoorFC2
import Derived.StillTailTactics
import Derived.Laws.AppendOwnNone
namespace Go.Proofs.YtgdcffbakjfacaaDoor
open Go.ChangeShapes Go.WideShapes Go.ChangeAt Go.RowKit
structure MoveM where
  fr : Int
  to : Int
def MoveM.cells (x : MoveM) : List Value := [.int .i64 x.fr, .int .i64 x.to]
def MoveM.ok (x : MoveM) : Prop := I64 x.fr ∧ I64 x.to
theorem MoveM.cells_length (x : MoveM) : x.cells.length = 2 := rfl
abbrev MoveM.val (x : MoveM) : Value := .agg #[.int .i64 x.fr, .int .i64 x.to]
/-- a slice that reads as the list xs -/
def Moves (w : World) (S : Nat → Prop) (v : Value) (xs : List MoveM) : Prop := Raw w S 2 v xs.length (xs.flatMap MoveM.cells) ∧ ∀ x ∈ xs, x.ok
section
variable {S T : Nat → Prop} {w w' : World} {v : Value} {xs : List MoveM}
theorem Moves.keep (h : Moves w S v xs) (g : Chg T w w') (hd : ∀ b, b < w.heap.size → S b → ¬ T b) : Moves w' S v xs := ⟨h.1.keep g hd, h.2⟩
theorem Moves.up (h : Moves w S v xs) (g : Up w w') : Moves w' S v xs := ⟨h.1.up g, h.2⟩
theorem Moves.alloc' (h : Moves w S v xs) (o : Obj) : Moves (w.alloc o) S v xs := h.up ((Chg.refl _ _).alloc o)
theorem Moves.mono (h : Moves w S v xs) (hs : ∀ b, b < w.heap.size → S b → T b) : Moves w T v xs := ⟨h.1.mono hs, h.2⟩
theorem Moves.shape (h : Moves w S v xs) : ∃ A c, v = .slice A xs.length c ∧ xs.length ≤ c ∧ c ≤ 9223372036854775807 ∧ (A = none → c = 0) := h.1.shape
theorem Moves.nil (w : World) (S : Nat → Prop) (c : Nat) (A : Option Addr) (hc : c ≤ 9223372036854775807) (hA : A = none → c = 0 := by simp) : Moves w S (.slice A 0 c) [] := ⟨Raw.nil w S 2 c A hc hA, by simp⟩
theorem Moves.at_ (h : Moves w S v xs) {i : Nat} (hi : i < xs.length) : ∃ b o c, v = .slice (some ⟨b, o, none⟩) xs.length c ∧ S b ∧ b < w.heap.size ∧
    ∀ j u, (xs[i].cells)[j]? = some u → w.cell? ⟨b, o + i * 2 + j, none⟩ = some u ∧ w.frozen? ⟨b, o + i * 2 + j, none⟩ = false := Raw.at_ MoveM.cells_length h.1 hi
end
def MMoves (w : World) (S : Nat → Prop) (v : Value) (xs : List MoveM) (k : Int) : Prop := Raw w S 2 v xs.length (markCells k (xs.length * 2))
theorem MMoves.keep {S T : Nat → Prop} {w w' : World} {v : Value} {xs : List MoveM} {k : Int} (h : MMoves w S v xs k) (g : Chg T w w') (hd : ∀ b, b < w.heap.size → S b → ¬ T b) : MMoves w' S v xs k := Raw.keep h g hd
theorem MMoves.up {S : Nat → Prop} {w w' : World} {v : Value} {xs : List MoveM} {k : Int} (h : MMoves w S v xs k) (g : Up w w') : MMoves w' S v xs k := Raw.up h g
def cntMoves (xs : List MoveM) : Nat := xs.length * 2
theorem cells_oneMoves (x : MoveM) : ∀ u ∈ x.cells, u.oneCell' = true := by
  intro u hu
  simp only [MoveM.cells, List.mem_cons, List.not_mem_nil, or_false] at hu
  rcases hu with rfl | rfl <;> rfl
end Go.Proofs.YtgdcffbakjfacaaDoor
