/- Operations as data: slices of them; the laws' own helpers on them: equal, marked, held. No condition but room for the numbers. -/
import Derived.Test.YtjgdcjhmfbefdaaRec
import Derived.StillTailTactics
namespace Go.Proofs.Ytjgdcjhmfbefdaa
open Go.ChangeShapes Go.WideShapes Go.ChangeAt Go.RowKit

/-- an operation: Kind, Dir, From (Bed, At), To (Bed, At), Carrier, Rack -/
structure OpM where
  kind : Int
  dir : Int
  fb : Int
  fa : Int
  tb : Int
  ta : Int
  car : Int
  rack : Int
def OpM.cells (x : OpM) : List Value := [.int .i64 x.kind, .int .i64 x.dir, .int .i64 x.fb, .int .i64 x.fa, .int .i64 x.tb, .int .i64 x.ta, .int .i64 x.car, .int .i64 x.rack]
def OpM.ok (x : OpM) : Prop := I64 x.kind ∧ I64 x.dir ∧ I64 x.fb ∧ I64 x.fa ∧ I64 x.tb ∧ I64 x.ta ∧ I64 x.car ∧ I64 x.rack
theorem OpM.cells_length (x : OpM) : x.cells.length = 8 := rfl
abbrev OpM.val (x : OpM) : Value := .agg #[.int .i64 x.kind, .int .i64 x.dir, .int .i64 x.fb, .int .i64 x.fa, .int .i64 x.tb, .int .i64 x.ta, .int .i64 x.car, .int .i64 x.rack]
/-- a slice of operations that reads as the list xs -/
def Ops (w : World) (S : Nat → Prop) (v : Value) (xs : List OpM) : Prop := Raw w S 8 v xs.length (xs.flatMap OpM.cells) ∧ ∀ x ∈ xs, x.ok
section
variable {S T : Nat → Prop} {w w' : World} {v : Value} {xs : List OpM}
theorem Ops.keep (h : Ops w S v xs) (g : Chg T w w') (hd : ∀ b, b < w.heap.size → S b → ¬ T b) : Ops w' S v xs := ⟨h.1.keep g hd, h.2⟩
theorem Ops.up (h : Ops w S v xs) (g : Up w w') : Ops w' S v xs := ⟨h.1.up g, h.2⟩
theorem Ops.alloc' (h : Ops w S v xs) (o : Obj) : Ops (w.alloc o) S v xs := h.up ((Chg.refl _ _).alloc o)
theorem Ops.mono (h : Ops w S v xs) (hs : ∀ b, b < w.heap.size → S b → T b) : Ops w T v xs := ⟨h.1.mono hs, h.2⟩
theorem Ops.shape (h : Ops w S v xs) : ∃ A c, v = .slice A xs.length c ∧ xs.length ≤ c ∧ c ≤ 9223372036854775807 ∧ (A = none → c = 0) := h.1.shape
theorem Ops.nil (w : World) (S : Nat → Prop) (c : Nat) (A : Option Addr) (hc : c ≤ 9223372036854775807) (hA : A = none → c = 0 := by simp) : Ops w S (.slice A 0 c) [] := ⟨Raw.nil w S 8 c A hc hA, by simp⟩
/-- an element's cells -/
theorem Ops.at_ (h : Ops w S v xs) {i : Nat} (hi : i < xs.length) : ∃ b o c, v = .slice (some ⟨b, o, none⟩) xs.length c ∧ S b ∧ b < w.heap.size ∧
    ∀ j u, (xs[i].cells)[j]? = some u → w.cell? ⟨b, o + i * 8 + j, none⟩ = some u ∧ w.frozen? ⟨b, o + i * 8 + j, none⟩ = false := Raw.at_ OpM.cells_length h.1 hi
end
/-- the words under which the laws' walks know them -/
def MOps (w : World) (S : Nat → Prop) (v : Value) (xs : List OpM) (k : Int) : Prop := Raw w S 8 v xs.length (markCells k (xs.length * 8))
theorem MOps.keep {S T : Nat → Prop} {w w' : World} {v : Value} {xs : List OpM} {k : Int} (h : MOps w S v xs k) (g : Chg T w w') (hd : ∀ b, b < w.heap.size → S b → ¬ T b) : MOps w' S v xs k := Raw.keep h g hd
theorem MOps.up {S : Nat → Prop} {w w' : World} {v : Value} {xs : List OpM} {k : Int} (h : MOps w S v xs k) (g : Up w w') : MOps w' S v xs k := Raw.up h g
def cntOps (xs : List OpM) : Nat := xs.length * 8
end Go.Proofs.Ytjgdcjhmfbefdaa
