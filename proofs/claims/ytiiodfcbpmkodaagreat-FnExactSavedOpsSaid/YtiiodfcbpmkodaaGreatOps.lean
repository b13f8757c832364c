/- Operations as data: slices of them; the laws' own helpers on them: equal, marked, held. No condition but room for the numbers. -/
import Derived.Test.YtiiodfcbpmkodaaGreatRec
import Derived.StillTailTactics
set_option linter.unusedSimpArgs false
set_option linter.unusedVariables false
set_option maxRecDepth 100000
set_option maxHeartbeats 2000000
namespace Go.Proofs.YtiiodfcbpmkodaaGreat
open Go.ChangeShapes Go.WideShapes Go.ChangeAt Go.RowKit
/-- an operation: Kind, Dir, From (Bed, At), To (Bed, At), Carrier, Rack -/
structure OpM where
  kind : Int
  dir : Int
  fb : Int
  fa : Int
  tb : Int
  ta : Int
  car : Int
  rack : Int
def OpM.cells (x : OpM) : List Value := [.int .i64 x.kind, .int .i64 x.dir, .int .i64 x.fb, .int .i64 x.fa, .int .i64 x.tb, .int .i64 x.ta, .int .i64 x.car, .int .i64 x.rack]
def OpM.ok (x : OpM) : Prop := I64 x.kind ∧ I64 x.dir ∧ I64 x.fb ∧ I64 x.fa ∧ I64 x.tb ∧ I64 x.ta ∧ I64 x.car ∧ I64 x.rack
theorem OpM.cells_length (x : OpM) : x.cells.length = 8 := rfl
abbrev OpM.val (x : OpM) : Value := .agg #[.int .i64 x.kind, .int .i64 x.dir, .int .i64 x.fb, .int .i64 x.fa, .int .i64 x.tb, .int .i64 x.ta, .int .i64 x.car, .int .i64 x.rack]
/-- a slice of operations that reads as the list xs -/
def Ops (w : World) (S : Nat → Prop) (v : Value) (xs : List OpM) : Prop := Raw w S 8 v xs.length (xs.flatMap OpM.cells) ∧ ∀ x ∈ xs, x.ok
section
variable {S T : Nat → Prop} {w w' : World} {v : Value} {xs : List OpM}
theorem Ops.keep (h : Ops w S v xs) (g : Chg T w w') (hd : ∀ b, b < w.heap.size → S b → ¬ T b) : Ops w' S v xs := ⟨h.1.keep g hd, h.2⟩
theorem Ops.up (h : Ops w S v xs) (g : Up w w') : Ops w' S v xs := ⟨h.1.up g, h.2⟩
theorem Ops.alloc' (h : Ops w S v xs) (o : Obj) : Ops (w.alloc o) S v xs := h.up ((Chg.refl _ _).alloc o)
theorem Ops.mono (h : Ops w S v xs) (hs : ∀ b, b < w.heap.size → S b → T b) : Ops w T v xs := ⟨h.1.mono hs, h.2⟩
theorem Ops.shape (h : Ops w S v xs) : ∃ A c, v = .slice A xs.length c ∧ xs.length ≤ c ∧ c ≤ 9223372036854775807 ∧ (A = none → c = 0) := h.1.shape
theorem Ops.nil (w : World) (S : Nat → Prop) (c : Nat) (A : Option Addr) (hc : c ≤ 9223372036854775807) (hA : A = none → c = 0 := by simp) : Ops w S (.slice A 0 c) [] := ⟨Raw.nil w S 8 c A hc hA, by simp⟩
/-- an element's cells -/
theorem Ops.at_ (h : Ops w S v xs) {i : Nat} (hi : i < xs.length) : ∃ b o c, v = .slice (some ⟨b, o, none⟩) xs.length c ∧ S b ∧ b < w.heap.size ∧
    ∀ j u, (xs[i].cells)[j]? = some u → w.cell? ⟨b, o + i * 8 + j, none⟩ = some u ∧ w.frozen? ⟨b, o + i * 8 + j, none⟩ = false := Raw.at_ OpM.cells_length h.1 hi
end
theorem eqOp_same (w : World) (x : OpM) : Calls Tryz.prog 25 #[x.val, x.val] w fun e w' => e = .returned (.bool true) ∧ Up w w' := by
  go_enter Tryz.func25, Tryz.ntmps25
  go_wp2
  go_ret
  exact ⟨rfl, by repeat (first | exact Chg.refl _ _ | apply Chg.drew | apply Chg.drewN | refine Chg.alloc ?_ _)⟩
theorem eqOpS_same (w : World) (S T : Nat → Prop) (v u : Value) (xs : List OpM) (h : Ops w S v xs) (h2 : Ops w T u xs) :
    Calls Tryz.prog 10 #[v, u] w fun e w' => e = .returned (.bool true) ∧ Up w w' := by
  obtain ⟨A, c, rfl, hlc, hcm, -⟩ := h.shape
  obtain ⟨A2, c2, rfl, hlc2, hcm2, -⟩ := h2.shape
  have hz : ((xs.length : Int) != xs.length) = false := by simp
  have H := Lib.hid h
  have H2 := Lib.hid h2
  clear h h2
  go_enter Tryz.func10, Tryz.ntmps10
  go_wp2
  go_loopw [5] (fun i wr => ∃ j : Nat, j ≤ xs.length ∧ i = .int .i64 j ∧ Hid (Up w wr)) (fun i _ => xs.length - (intOf i).toNat)
  case atStart => exact ⟨0, by omega, rfl, Chg.refl _ _⟩
  case round =>
    obtain ⟨j, hj, rfl, hg⟩ := hrel
    by_cases hlt : j < xs.length
    · obtain ⟨b, o, c', he, -, -, hc⟩ := (H.out.up hg.out).at_ hlt
      obtain ⟨b2, o2, c2', he2, -, -, hc2⟩ := (H2.out.up hg.out).at_ hlt
      obtain ⟨rfl, rfl⟩ : A = some ⟨b, o, none⟩ ∧ c = c' := by simpa using he
      obtain ⟨rfl, rfl⟩ : A2 = some ⟨b2, o2, none⟩ ∧ c2 = c2' := by simpa using he2
      have f0 := (hc 0 _ rfl).1
      rw [Nat.add_zero] at f0
      have f1 := (hc 1 _ rfl).1
      have f2 := (hc 2 _ rfl).1
      have f3 := (hc 3 _ rfl).1
      have f4 := (hc 4 _ rfl).1
      have f5 := (hc 5 _ rfl).1
      have f6 := (hc 6 _ rfl).1
      have f7 := (hc 7 _ rfl).1
      have g0 := (hc2 0 _ rfl).1
      rw [Nat.add_zero] at g0
      have g1 := (hc2 1 _ rfl).1
      have g2 := (hc2 2 _ rfl).1
      have g3 := (hc2 3 _ rfl).1
      have g4 := (hc2 4 _ rfl).1
      have g5 := (hc2 5 _ rfl).1
      have g6 := (hc2 6 _ rfl).1
      have g7 := (hc2 7 _ rfl).1
      clear hc hc2 he he2
      go_wp2
      go_still_tail 8, (by kernel_rfl)
      go_wp2_with fail
      refine (eqOp_same _ xs[j]).mono ?_
      rintro e w1 ⟨rfl, k1⟩
      have K1 := Lib.hid k1
      clear k1
      go_wp2
      go_roundw
      case rel => exact ⟨j + 1, by omega, by go_num, (hg.out.drew).trans K1.out⟩
      case measure => simp [intOf]; omega
    · go_wp2
      go_ret
      exact ⟨rfl, hg.out⟩
theorem markOpS_marks (w : World) (S : Nat → Prop) (v : Value) (n : Nat) (cs : List Value) (k : Int) (hk : 0 ≤ k) (hb : k + (n * 8 : Nat) ≤ 4611686018427387904)
    (h : Raw w S 8 v n cs) :
    Calls Tryz.prog 11 #[v, .int .i64 k] w fun e w' => e = .returned (.int .i64 (k + (n * 8 : Nat))) ∧ Chg S w w' ∧ Raw w' S 8 v n (markCells k (n * 8)) := by
  obtain ⟨hl, A, c, rfl, hlc, hcm, hr, hnn⟩ := h
  by_cases hz : 0 < n
  · obtain ⟨b, o, rfl, hS, hbl, hc⟩ := hr hz
    have Hc := Lib.hid hc
    have HS := Lib.hid hS
    have Hl := Lib.hid hl
    clear hr hc hS hl
    go_enter Tryz.func11, Tryz.ntmps11
    go_wp2
    go_loopw [1, 5] (fun q i wr => ∃ j : Nat, j ≤ n ∧ i = .int .i64 j ∧ q = .int .i64 (k + 8 * j) ∧ Hid (Chg S w wr) ∧ Hid (Marking wr b o 8 n j k)) (fun _ i _ => n - (intOf i).toNat)
    case atStart => exact ⟨0, by omega, rfl, by simp, Chg.refl _ _, Marking.start k Hl.out Hc.out⟩
    case round =>
      obtain ⟨j, hj, rfl, rfl, hg, hcs⟩ := hrel
      by_cases hlt : j < n
      · obtain ⟨x0, f0, q0⟩ := hcs.out.cell hlt 0 (by omega)
        obtain ⟨x1, f1, q1⟩ := hcs.out.cell hlt 1 (by omega)
        obtain ⟨x2, f2, q2⟩ := hcs.out.cell hlt 2 (by omega)
        obtain ⟨x3, f3, q3⟩ := hcs.out.cell hlt 3 (by omega)
        obtain ⟨x4, f4, q4⟩ := hcs.out.cell hlt 4 (by omega)
        obtain ⟨x5, f5, q5⟩ := hcs.out.cell hlt 5 (by omega)
        obtain ⟨x6, f6, q6⟩ := hcs.out.cell hlt 6 (by omega)
        obtain ⟨x7, f7, q7⟩ := hcs.out.cell hlt 7 (by omega)
        rw [Nat.add_zero] at f0 q0
        go_wp2
        go_roundw
        case rel =>
          clear f0 f1 f2 f3 f4 f5 f6 f7 q0 q1 q2 q3 q4 q5 q6 q7
          refine ⟨j + 1, by omega, by go_num, by simp only [Value.int.injEq, true_and]; omega, Chg.setCells HS.out [_, _, _, _, _, _, _, _] (o + j * 8) hg.out, Marking.next hcs.out hlt (vs := [_, _, _, _, _, _, _, _]) ?_⟩
          simp only [List.range, List.range.loop, List.map_cons, List.map_nil, List.cons.injEq, Value.int.injEq, true_and, and_true]
          omega
        case measure => simp [intOf]; omega
      · obtain rfl : j = n := by omega
        go_wp2
        go_ret
        exact ⟨ret_int (by omega), hg.out, Marking.done hcs.out HS.out (Nat.lt_of_lt_of_le hbl hg.out.size) hlc hcm⟩
  · obtain rfl : n = 0 := by omega
    clear hr hl
    go_enter Tryz.func11, Tryz.ntmps11
    go_wp2
    go_loop [1, 5] (fun q i => i = .int .i64 0 ∧ q = .int .i64 k) (fun _ _ => 0)
    case atStart => exact ⟨rfl, rfl⟩
    case round =>
      obtain ⟨rfl, rfl⟩ := hrel
      go_wp2
      go_ret
      exact ⟨by simp, Chg.refl _ _, Raw.nil _ _ _ _ _ hcm hnn⟩
/-- the words under which the laws' walks know them -/
def MOps (w : World) (S : Nat → Prop) (v : Value) (xs : List OpM) (k : Int) : Prop := Raw w S 8 v xs.length (markCells k (xs.length * 8))
theorem MOps.keep {S T : Nat → Prop} {w w' : World} {v : Value} {xs : List OpM} {k : Int} (h : MOps w S v xs k) (g : Chg T w w') (hd : ∀ b, b < w.heap.size → S b → ¬ T b) : MOps w' S v xs k := Raw.keep h g hd
theorem MOps.up {S : Nat → Prop} {w w' : World} {v : Value} {xs : List OpM} {k : Int} (h : MOps w S v xs k) (g : Up w w') : MOps w' S v xs k := Raw.up h g
def cntOps (xs : List OpM) : Nat := xs.length * 8
theorem markOps (w : World) (S : Nat → Prop) (v : Value) (xs : List OpM) (k : Int) (hk : 0 ≤ k) (hb : k + cntOps xs ≤ 4611686018427387904) (h : Ops w S v xs) :
    Calls Tryz.prog 11 #[v, .int .i64 k] w fun e w' => e = .returned (.int .i64 (k + cntOps xs)) ∧ Chg S w w' ∧ MOps w' S v xs k :=
  markOpS_marks w S v xs.length _ k hk hb h.1
theorem eqOps (w : World) (S T : Nat → Prop) (v u : Value) (xs : List OpM) (h : Ops w S v xs) (h2 : Ops w T u xs) :
    Calls Tryz.prog 10 #[v, u] w fun e w' => e = .returned (.bool true) ∧ Up w w' := eqOpS_same w S T v u xs h h2
end Go.Proofs.YtiiodfcbpmkodaaGreat
