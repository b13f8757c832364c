/- Operations as data: slices of them; the laws' own helpers on them: equal, marked, held. No condition but room for the numbers. Contracts of ValidPlaces and of the reference's l21Places: whether a list are needles of columns. No condition. The operations with which loops go from a front needle to another one. Condition: small needles. Contracts of small tests on numbers: carriers, directions, places, kinds of stitches. No condition. -/
import Derived.Test.YtgdcffbakjfacaaDoorFC2
import Derived.StillTailTactics
namespace Go.Proofs.YtgdcffbakjfacaaDoor
open Go.ChangeShapes Go.WideShapes Go.ChangeAt Go.RowKit

/-- an operation: Kind, Dir, From (Bed, At), To (Bed, At), Carrier, Rack -/
structure OpM where
  kind : Int
  dir : Int
  fb : Int
  fa : Int
  tb : Int
  ta : Int
  car : Int
  rack : Int
def OpM.cells (x : OpM) : List Value := [.int .i64 x.kind, .int .i64 x.dir, .int .i64 x.fb, .int .i64 x.fa, .int .i64 x.tb, .int .i64 x.ta, .int .i64 x.car, .int .i64 x.rack]
def OpM.ok (x : OpM) : Prop := I64 x.kind ∧ I64 x.dir ∧ I64 x.fb ∧ I64 x.fa ∧ I64 x.tb ∧ I64 x.ta ∧ I64 x.car ∧ I64 x.rack
theorem OpM.cells_length (x : OpM) : x.cells.length = 8 := rfl
abbrev OpM.val (x : OpM) : Value := .agg #[.int .i64 x.kind, .int .i64 x.dir, .int .i64 x.fb, .int .i64 x.fa, .int .i64 x.tb, .int .i64 x.ta, .int .i64 x.car, .int .i64 x.rack]
/-- a slice of operations that reads as the list xs -/
def Ops (w : World) (S : Nat → Prop) (v : Value) (xs : List OpM) : Prop := Raw w S 8 v xs.length (xs.flatMap OpM.cells) ∧ ∀ x ∈ xs, x.ok
section
variable {S T : Nat → Prop} {w w' : World} {v : Value} {xs : List OpM}
theorem Ops.keep (h : Ops w S v xs) (g : Chg T w w') (hd : ∀ b, b < w.heap.size → S b → ¬ T b) : Ops w' S v xs := ⟨h.1.keep g hd, h.2⟩
theorem Ops.up (h : Ops w S v xs) (g : Up w w') : Ops w' S v xs := ⟨h.1.up g, h.2⟩
theorem Ops.alloc' (h : Ops w S v xs) (o : Obj) : Ops (w.alloc o) S v xs := h.up ((Chg.refl _ _).alloc o)
theorem Ops.mono (h : Ops w S v xs) (hs : ∀ b, b < w.heap.size → S b → T b) : Ops w T v xs := ⟨h.1.mono hs, h.2⟩
theorem Ops.shape (h : Ops w S v xs) : ∃ A c, v = .slice A xs.length c ∧ xs.length ≤ c ∧ c ≤ 9223372036854775807 ∧ (A = none → c = 0) := h.1.shape
theorem Ops.nil (w : World) (S : Nat → Prop) (c : Nat) (A : Option Addr) (hc : c ≤ 9223372036854775807) (hA : A = none → c = 0 := by simp) : Ops w S (.slice A 0 c) [] := ⟨Raw.nil w S 8 c A hc hA, by simp⟩
/-- an element's cells -/
theorem Ops.at_ (h : Ops w S v xs) {i : Nat} (hi : i < xs.length) : ∃ b o c, v = .slice (some ⟨b, o, none⟩) xs.length c ∧ S b ∧ b < w.heap.size ∧
    ∀ j u, (xs[i].cells)[j]? = some u → w.cell? ⟨b, o + i * 8 + j, none⟩ = some u ∧ w.frozen? ⟨b, o + i * 8 + j, none⟩ = false := Raw.at_ OpM.cells_length h.1 hi
end
/-- the words under which the laws' walks know them -/
def MOps (w : World) (S : Nat → Prop) (v : Value) (xs : List OpM) (k : Int) : Prop := Raw w S 8 v xs.length (markCells k (xs.length * 8))
theorem MOps.keep {S T : Nat → Prop} {w w' : World} {v : Value} {xs : List OpM} {k : Int} (h : MOps w S v xs k) (g : Chg T w w') (hd : ∀ b, b < w.heap.size → S b → ¬ T b) : MOps w' S v xs k := Raw.keep h g hd
theorem MOps.up {S : Nat → Prop} {w w' : World} {v : Value} {xs : List OpM} {k : Int} (h : MOps w S v xs k) (g : Up w w') : MOps w' S v xs k := Raw.up h g
def cntOps (xs : List OpM) : Nat := xs.length * 8
end Go.Proofs.YtgdcffbakjfacaaDoor
namespace Go.Proofs.YtgdcffbakjfacaaDoor
open Go.ChangeShapes Go.WideShapes Go.ChangeAt Go.RowKit

/-- the first j numbers are needles in ascending order (twice: equal ones are let in) -/
def placesTo (twice : Bool) (xs : List Int) (j : Nat) : Prop :=
  ∀ i (_ : i < xs.length), i < j → 0 ≤ xs[i] ∧ xs[i] ≤ 23 ∧ (∀ (_ : 0 < i), xs[i - 1] < xs[i] ∨ (twice = true ∧ xs[i - 1] = xs[i]))
instance (twice : Bool) (xs : List Int) (j : Nat) : Decidable (placesTo twice xs j) := inferInstanceAs (Decidable (∀ i, ∀ (_ : i < xs.length), i < j → _))
def placesB (twice : Bool) (xs : List Int) : Bool := decide (placesTo twice xs xs.length ∧ xs.length ≤ 8)
theorem placesTo_zero (twice : Bool) (xs : List Int) : placesTo twice xs 0 := fun _ _ h => absurd h (by omega)
theorem placesTo_succ {twice : Bool} {xs : List Int} {j : Nat} (hp : placesTo twice xs j) {h : j < xs.length} (h1 : 0 ≤ xs[j] ∧ xs[j] ≤ 23) (h2 : ∀ (_ : 0 < j), xs[j - 1] < xs[j] ∨ (twice = true ∧ xs[j - 1] = xs[j])) :
    placesTo twice xs (j + 1) := fun i hi hij => by
  by_cases e : i = j
  · subst e; exact ⟨h1.1, h1.2, h2⟩
  · exact hp i hi (by omega)
theorem placesB_not {twice : Bool} {xs : List Int} {j : Nat} (h : j < xs.length) (hn : ¬ (0 ≤ xs[j] ∧ xs[j] ≤ 23 ∧ (∀ (_ : 0 < j), xs[j - 1] < xs[j] ∨ (twice = true ∧ xs[j - 1] = xs[j])))) : placesB twice xs = false :=
  decide_eq_false fun hh => hn (hh.1 j h h)
theorem placesB_all {twice : Bool} {xs : List Int} (h : placesTo twice xs xs.length) : placesB twice xs = decide ((xs.length : Int) ≤ 8) := by
  unfold placesB; simp [h]; omega

end Go.Proofs.YtgdcffbakjfacaaDoor
namespace Go.Proofs.YtgdcffbakjfacaaDoor
open Go.ChangeShapes Go.WideShapes Go.ChangeAt Go.RowKit
def rackM (a b : Int) : List OpM := [⟨4, 0, 1, a, 2, a, 0, 0⟩, ⟨7, 0, 0, 0, 0, 0, 0, b - a⟩, ⟨4, 0, 2, a, 1, b, 0, 0⟩, ⟨7, 0, 0, 0, 0, 0, 0, 0⟩]
theorem rackM_ok {a b : Int} (ha : 0 ≤ a ∧ a ≤ 1000) (hb : 0 ≤ b ∧ b ≤ 1000) : ∀ x ∈ rackM a b, x.ok := by
  intro x hx
  simp only [rackM, List.mem_cons, List.not_mem_nil, or_false] at hx
  rcases hx with rfl | rfl | rfl | rfl <;> (unfold OpM.ok I64; simp only []; omega)
end Go.Proofs.YtgdcffbakjfacaaDoor
namespace Go.Proofs.YtgdcffbakjfacaaDoor
open Go.ChangeShapes Go.WideShapes Go.ChangeAt Go.RowKit
theorem isCarrier_yes (n : Int) (w : World) (h : 1 ≤ n ∧ n ≤ 4) :
    Calls Tryd.prog 28 #[.int .i64 n] w fun e w' => e = .returned (.bool true) ∧ w = w' := by
  go_enter Tryd.func28, Tryd.ntmps28
  go_wp2_with (first | (go_at_call 23; refine (within_yes _ _ _ _ ?_).mono ?_; (omega); rintro e w' ⟨rfl, rfl⟩) | (go_at_call 23; refine (within_no _ _ _ _ ?_).mono ?_; (omega); rintro e w' ⟨rfl, rfl⟩))
  go_ret
  exact ⟨rfl, rfl⟩
theorem isCarrier_no (n : Int) (w : World) (h : n < 1 ∨ 4 < n) :
    Calls Tryd.prog 28 #[.int .i64 n] w fun e w' => e = .returned (.bool false) ∧ w = w' := by
  go_enter Tryd.func28, Tryd.ntmps28
  go_wp2_with (first | (go_at_call 23; refine (within_yes _ _ _ _ ?_).mono ?_; (omega); rintro e w' ⟨rfl, rfl⟩) | (go_at_call 23; refine (within_no _ _ _ _ ?_).mono ?_; (omega); rintro e w' ⟨rfl, rfl⟩))
  go_ret
  exact ⟨rfl, rfl⟩
theorem isStitch_yes (n : Int) (w : World) (h : 1 ≤ n ∧ n ≤ 11) :
    Calls Tryd.prog 83 #[.int .i64 n] w fun e w' => e = .returned (.bool true) ∧ w = w' := by
  go_enter Tryd.func83, Tryd.ntmps83
  go_wp2_with (first | (go_at_call 23; refine (within_yes _ _ _ _ ?_).mono ?_; (omega); rintro e w' ⟨rfl, rfl⟩) | (go_at_call 23; refine (within_no _ _ _ _ ?_).mono ?_; (omega); rintro e w' ⟨rfl, rfl⟩))
  go_ret
  exact ⟨rfl, rfl⟩
theorem isStitch_no (n : Int) (w : World) (h : n < 1 ∨ 11 < n) :
    Calls Tryd.prog 83 #[.int .i64 n] w fun e w' => e = .returned (.bool false) ∧ w = w' := by
  go_enter Tryd.func83, Tryd.ntmps83
  go_wp2_with (first | (go_at_call 23; refine (within_yes _ _ _ _ ?_).mono ?_; (omega); rintro e w' ⟨rfl, rfl⟩) | (go_at_call 23; refine (within_no _ _ _ _ ?_).mono ?_; (omega); rintro e w' ⟨rfl, rfl⟩))
  go_ret
  exact ⟨rfl, rfl⟩
theorem isDirection_yes (n : Int) (w : World) (h : n = 1 ∨ n = -1) :
    Calls Tryd.prog 68 #[.int .i64 n] w fun e w' => e = .returned (.bool true) ∧ w = w' := by
  rcases h with rfl | rfl
  all_goals
    go_enter Tryd.func68, Tryd.ntmps68
    go_wp2
    go_ret
    exact ⟨rfl, rfl⟩
theorem isDirection_no (n : Int) (w : World) (h : n ≠ 1 ∧ n ≠ -1) :
    Calls Tryd.prog 68 #[.int .i64 n] w fun e w' => e = .returned (.bool false) ∧ w = w' := by
  have h1 : (n == 1) = false := by simpa using h.1
  have h2 : (n == -1) = false := by simpa using h.2
  clear h
  go_enter Tryd.func68, Tryd.ntmps68
  go_wp2
  go_ret
  exact ⟨rfl, rfl⟩
end Go.Proofs.YtgdcffbakjfacaaDoor
