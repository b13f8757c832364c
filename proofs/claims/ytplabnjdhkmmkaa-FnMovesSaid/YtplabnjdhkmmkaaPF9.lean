/- slices.Reverse on numbers; the order of a row's stitches on both sides; the first of each run of needles. No condition but room. The targets of the columns of a row, on both sides. No condition but room. RowTargets on both sides. No condition but room. The order of a row's stitches on both sides; the first of each run of needles. No condition but room. Whether a row keeps few loops at every time: plain; the program's sums. No condition. keepsLimit, the program's. No condition. l15Thin, the reference's. No condition. Charts as data and in memory: a slice of rows, each of three cells. No condition. allStacks: the stacks behind each row of a chart. No condition. l15Stacks: the stacks behind each row of a chart. No condition. ValidChart, layoutWidth, LayoutWidth, on both sides. No condition. The laws' helpers on charts: sizes. No condition. The laws' helpers on charts: copies. No condition. The laws' helpers on charts. No condition. The laws' helpers on charts: equality. No condition. The laws' helpers on charts: copies whose rows' numbers lie in blocks apart, and marks. No condition. A number put into a rising list; whole lists. No condition. -/
import Derived.Test.YtplabnjdhkmmkaaPF8
import Derived.RegionTactic
import Derived.ChangeAlike
import Derived.Test.YtplabnjdhkmmkaaPF6
import Derived.Deep.RegionLaw
import Derived.Test.YtplabnjdhkmmkaaRep
import Derived.Test.YtplabnjdhkmmkaaPF2
section
set_option linter.unusedSimpArgs false
set_option linter.unusedVariables false
namespace Go.Proofs.Ytplabnjdhkmmkaa
open Go.ChangeShapes Go.WideShapes Go.ChangeAt Go.RowKit
end Go.Proofs.Ytplabnjdhkmmkaa
end
section
set_option linter.unusedSimpArgs false
set_option linter.unusedVariables false
namespace Go.Proofs.Ytplabnjdhkmmkaa
open Go.ChangeShapes Go.WideShapes Go.ChangeAt Go.RowKit
def ApartB (u v : Value) : Prop := ∀ g, u.ownBlock = some g → v.ownBlock ≠ some g
theorem ApartB.symm {u v : Value} (h : ApartB u v) : ApartB v u := fun g h1 h2 => h g h2 h1
/-- three rows under construction, each in a block of its own, beside two slices of slices that are read -/
structure T3 (w : World) (base lo hi : Nat) (v1 v2 v3 : Value) (x1 x2 x3 : List Int) (s1 s2 : Value) (l1 l2 : List (List Int)) : Prop where
  o1 : OwnI w base v1 x1
  o2 : OwnI w base v2 x2
  o3 : OwnI w base v3 x3
  d12 : ApartB v1 v2
  d13 : ApartB v1 v3
  d23 : ApartB v2 v3
  f1 : Off lo hi v1
  f2 : Off lo hi v2
  f3 : Off lo hi v3
  k1 : IntSS w (New lo hi) s1 l1
  k2 : IntSS w (New lo hi) s2 l2
  le : hi ≤ w.heap.size
section
variable {w w' : World} {base lo hi : Nat} {v1 v2 v3 v' s1 s2 : Value} {x1 x2 x3 y1 : List Int} {l1 l2 : List (List Int)}
theorem T3.up (h : T3 w base lo hi v1 v2 v3 x1 x2 x3 s1 s2 l1 l2) (g : Up w w') : T3 w' base lo hi v1 v2 v3 x1 x2 x3 s1 s2 l1 l2 :=
  ⟨h.o1.up g, h.o2.up g, h.o3.up g, h.d12, h.d13, h.d23, h.f1, h.f2, h.f3, h.k1.up g, h.k2.up g, Nat.le_trans h.le g.size⟩
theorem T3.off (h : T3 w base lo hi v1 v2 v3 x1 x2 x3 s1 s2 l1 l2) : ∀ b, b < w.heap.size → New lo hi b → ¬ v1.ownBlock = some b := fun b _ hn hb => by
  have := h.f1 b hb
  simp only [New] at hn
  omega
theorem T3.ints (h : T3 w base lo hi v1 v2 v3 x1 x2 x3 s1 s2 l1 l2) (g : Chg (fun b => v1.ownBlock = some b) w w') {u : Value} {ys : List Int} (hu : Ints w (New lo hi) u ys) : Ints w' (New lo hi) u ys := hu.keep g h.off
end
/-- three slices of the call's own, each in a block of its own -/
structure Own3 (w : World) (base : Nat) (v1 v2 v3 : Value) (x1 x2 x3 : List Int) : Prop where
  o1 : OwnI w base v1 x1
  o2 : OwnI w base v2 x2
  o3 : OwnI w base v3 x3
  d12 : ApartB v1 v2
  d13 : ApartB v1 v3
  d23 : ApartB v2 v3
theorem Own3.up {w w' : World} {base : Nat} {v1 v2 v3 : Value} {x1 x2 x3 : List Int} (h : Own3 w base v1 v2 v3 x1 x2 x3) (g : Up w w') : Own3 w' base v1 v2 v3 x1 x2 x3 := ⟨h.o1.up g, h.o2.up g, h.o3.up g, h.d12, h.d13, h.d23⟩
theorem OwnI.lower {w : World} {base b2 : Nat} {v : Value} {xs : List Int} (h : OwnI w base v xs) (hb : b2 ≤ base) : OwnI w b2 v xs := by
  obtain ⟨⟨h1, h2⟩, h3⟩ := h
  refine ⟨⟨h1, ?_⟩, h3⟩
  rcases h2 with h2 | ⟨g, cap, cur, rfl, hg, r⟩
  · exact .inl h2
  · exact .inr ⟨g, cap, cur, rfl, Nat.le_trans hb hg, r⟩
end Go.Proofs.Ytplabnjdhkmmkaa
end
section
set_option linter.unusedSimpArgs false
set_option linter.unusedVariables false
namespace Go.Proofs.Ytplabnjdhkmmkaa
open Go.ChangeShapes Go.WideShapes Go.ChangeAt Go.RowKit
def Apart3 (S1 S2 S3 : Nat → Prop) : Prop := (∀ b, S1 b → ¬ S2 b) ∧ (∀ b, S1 b → ¬ S3 b) ∧ (∀ b, S2 b → ¬ S3 b)
/-- three slices, read apart, and a code -/
def Tri (w w' : World) (e : Ending) (v1 v2 v3 : Value) (S1 S2 S3 : Nat → Prop) (x1 x2 x3 : List Int) (c : Int) : Prop :=
  e = .returned (.tuple #[v1, v2, v3, .int .i64 c]) ∧ Ints w' S1 v1 x1 ∧ Ints w' S2 v2 x2 ∧ Ints w' S3 v3 x3 ∧ Apart3 S1 S2 S3 ∧ (∀ b, S1 b ∨ S2 b ∨ S3 b → New w.heap.size w'.heap.size b) ∧ Up w w'
theorem Tri.nil {w w' : World} {c c' : Int} (h : c' = c) (g : Up w w') : Tri w w' (.returned (.tuple #[.slice none 0 0, .slice none 0 0, .slice none 0 0, .int .i64 c'])) (.slice none 0 0) (.slice none 0 0) (.slice none 0 0) (fun _ => False) (fun _ => False) (fun _ => False) [] [] [] c :=
  ⟨by rw [h], Ints.nil _ _ _ _ (by omega), Ints.nil _ _ _ _ (by omega), Ints.nil _ _ _ _ (by omega), ⟨fun _ h => h.elim, fun _ h => h.elim, fun _ h => h.elim⟩, fun _ h => by rcases h with h | h | h <;> exact h.elim, g⟩
theorem Tri.own {w w' : World} {base : Nat} {v1 v2 v3 : Value} {x1 x2 x3 : List Int} {c c' : Int} (h : Own3 w' base v1 v2 v3 x1 x2 x3) (hc : c' = c) (hb : w.heap.size ≤ base) (g : Up w w') :
    Tri w w' (.returned (.tuple #[v1, v2, v3, .int .i64 c'])) v1 v2 v3 (fun b => v1.ownBlock = some b ∧ base ≤ b ∧ b < w'.heap.size) (fun b => v2.ownBlock = some b ∧ base ≤ b ∧ b < w'.heap.size) (fun b => v3.ownBlock = some b ∧ base ≤ b ∧ b < w'.heap.size) x1 x2 x3 c :=
  ⟨by rw [hc], h.o1.rd, h.o2.rd, h.o3.rd, ⟨fun b h1 h2 => h.d12 b h1.1 h2.1, fun b h1 h2 => h.d13 b h1.1 h2.1, fun b h1 h2 => h.d23 b h1.1 h2.1⟩,
   fun b hh => by rcases hh with hh | hh | hh <;> exact ⟨Nat.le_trans hb hh.2.1, hh.2.2⟩, g⟩
end Go.Proofs.Ytplabnjdhkmmkaa
end
section
set_option linter.unusedSimpArgs false
set_option linter.unusedVariables false
namespace Go.Proofs.Ytplabnjdhkmmkaa
open Go.ChangeShapes Go.WideShapes Go.ChangeAt Go.RowKit
end Go.Proofs.Ytplabnjdhkmmkaa
end
section
set_option maxRecDepth 100000
set_option maxHeartbeats 1000000
set_option linter.unusedSimpArgs false
set_option linter.unusedVariables false
namespace Go.Proofs.Ytplabnjdhkmmkaa
open Go.ChangeShapes Go.WideShapes Go.ChangeAt Go.RowKit
/-- what stands where a row fits its stacks -/
structure Fits (st ks : List Int) : Prop where
  s : stkB st = true
  k : stB ks = true
  sum : sumF takenK ks = st.length
theorem Fits.pos {st ks : List Int} (h : Fits st ks) {i : Nat} (hi : i < ks.length) : posS ks i + (takenK ks[i]).toNat ≤ st.length := by
  have h1 := posS_succ hi
  have h2 := posS_le ks (i + 1)
  have := h.sum
  omega
theorem Fits.step {st ks : List Int} (h : Fits st ks) {i : Nat} (hi : i < ks.length) : (stepAt st ks i).length ≤ 4 ∧ ∀ x ∈ stepAt st ks i, 1 ≤ x ∧ x ≤ 5 :=
  ⟨stepS_length _ _ _, fun x hx => aftTo_bd h.s h.sum h.k (i + 1) (by omega) x (by rw [aftTo_succ]; exact List.mem_append_right _ hx)⟩
end Go.Proofs.Ytplabnjdhkmmkaa
end
section
set_option maxRecDepth 100000
set_option maxHeartbeats 400000
set_option linter.unusedSimpArgs false
set_option linter.unusedVariables false
namespace Go.Proofs.Ytplabnjdhkmmkaa
open Go.ChangeShapes Go.WideShapes Go.ChangeAt Go.RowKit
/-- the three cells of a row's own box -/
def Bx (w : World) (g : Nat) (a b c : Value) : Prop := w.cell? ⟨g, 0, none⟩ = some a ∧ w.cell? ⟨g, 1, none⟩ = some b ∧ w.cell? ⟨g, 2, none⟩ = some c
theorem Bx.keep {S : Nat → Prop} {w w' : World} {g : Nat} {a b c : Value} (h : Bx w g a b c) (k : Chg S w w') (hn : ¬ S g) : Bx w' g a b c := ⟨Chg.cell k h.1 hn, Chg.cell k h.2.1 hn, Chg.cell k h.2.2 hn⟩
theorem Bx.up {w w' : World} {g : Nat} {a b c : Value} (h : Bx w g a b c) (k : Up w w') : Bx w' g a b c := h.keep k id
end Go.Proofs.Ytplabnjdhkmmkaa
end
section
set_option maxRecDepth 100000
set_option maxHeartbeats 1000000
set_option linter.unusedSimpArgs false
set_option linter.unusedVariables false
namespace Go.Proofs.Ytplabnjdhkmmkaa
open Go.ChangeShapes Go.WideShapes Go.ChangeAt Go.RowKit
end Go.Proofs.Ytplabnjdhkmmkaa
end
section
set_option linter.unusedSimpArgs false
set_option linter.unusedVariables false
namespace Go.Proofs.Ytplabnjdhkmmkaa
open Go.ChangeShapes Go.WideShapes Go.ChangeAt Go.RowKit
structure ChartM where
  n : Int
  rs : List RowM
/-- a slice of rows -/
def RowsV (w : World) (S : Nat → Prop) (v : Value) (rs : List RowM) : Prop :=
  ∃ A c, v = .slice A rs.length c ∧ rs.length ≤ c ∧ c ≤ 9223372036854775807 ∧ (0 < rs.length → ∃ b o, A = some ⟨b, o, none⟩ ∧ S b ∧ ∀ i (hi : i < rs.length), RowAt w S b (o + i * 3) rs[i]) ∧ (A = none → c = 0)
section
variable {S T : Nat → Prop} {w w' : World} {v : Value} {rs : List RowM}
theorem RowAt.lt {b o : Nat} {r : RowM} (h : RowAt w S b o r) : b < w.heap.size := by
  obtain ⟨A, c, h1, h2, h3, h4, h5, h6, h7, h8⟩ := h
  exact h8
theorem RowAt.mono {b o : Nat} {r : RowM} (h : RowAt w S b o r) (hs : ∀ b, b < w.heap.size → S b → T b) : RowAt w T b o r := by
  obtain ⟨A, c, h1, h2, h3, h4, h5, h6, h7, h8⟩ := h
  exact ⟨A, c, h1, h2, h3, h4.mono hs, h5, h6, h7, h8⟩
theorem RowsV.keep (h : RowsV w S v rs) (g : Chg T w w') (hd : ∀ b, b < w.heap.size → S b → ¬ T b) : RowsV w' S v rs := by
  obtain ⟨A, c, hv, h1, h2, h4, h5⟩ := h
  refine ⟨A, c, hv, h1, h2, fun hp => ?_, h5⟩
  obtain ⟨b, o, ha, hs, hc⟩ := h4 hp
  exact ⟨b, o, ha, hs, fun i hi => (hc i hi).keep g hd (hd b (hc i hi).lt hs)⟩
theorem RowsV.up (h : RowsV w S v rs) (g : Up w w') : RowsV w' S v rs := h.keep g fun _ _ _ h => h
theorem RowsV.mono (h : RowsV w S v rs) (hs : ∀ b, b < w.heap.size → S b → T b) : RowsV w T v rs := by
  obtain ⟨A, c, hv, h1, h2, h4, h5⟩ := h
  refine ⟨A, c, hv, h1, h2, fun hp => ?_, h5⟩
  obtain ⟨b, o, ha, hS, hc⟩ := h4 hp
  exact ⟨b, o, ha, hs b (hc 0 hp).lt hS, fun i hi => (hc i hi).mono hs⟩
theorem RowsV.shape (h : RowsV w S v rs) : ∃ A c, v = .slice A rs.length c ∧ rs.length ≤ c ∧ c ≤ 9223372036854775807 ∧ (A = none → c = 0) :=
  let ⟨A, c, h1, h2, h3, _, h4⟩ := h; ⟨A, c, h1, h2, h3, h4⟩
theorem RowsV.at_ {A : Option Addr} {c : Nat} (h : RowsV w S (.slice A rs.length c) rs) {i : Nat} (hi : i < rs.length) : ∃ b o, A = some ⟨b, o, none⟩ ∧ ∀ j (hj : j < rs.length), RowAt w S b (o + j * 3) rs[j] := by
  obtain ⟨A', c', he, h1, h2, h4, h5⟩ := h
  obtain ⟨rfl, rfl⟩ : A = A' ∧ c = c' := by simpa using he
  obtain ⟨b, o, ha, hS, hc⟩ := h4 (by omega)
  exact ⟨b, o, ha, hc⟩
end
/-- a chart by value -/
def ChartV (w : World) (S : Nat → Prop) (v : Value) (c : ChartM) : Prop := ∃ s, v = .agg #[.int .i64 c.n, s] ∧ RowsV w S s c.rs ∧ I64 c.n
theorem ChartV.shape {w : World} {S : Nat → Prop} {v : Value} {c : ChartM} (h : ChartV w S v c) : ∃ A k, v = .agg #[.int .i64 c.n, .slice A c.rs.length k] ∧ RowsV w S (.slice A c.rs.length k) c.rs ∧ c.rs.length ≤ k ∧ k ≤ 9223372036854775807 ∧ I64 c.n := by
  obtain ⟨s, h1, h2, h3⟩ := h
  obtain ⟨A, k, rfl, h4, h5, _⟩ := h2.shape
  exact ⟨A, k, h1, h2, h4, h5, h3⟩
/-- a chart behind a pointer -/
def ChartAt (w : World) (S : Nat → Prop) (b o : Nat) (c : ChartM) : Prop :=
  ∃ A k, w.cell? ⟨b, o, none⟩ = some (.int .i64 c.n) ∧ w.cell? ⟨b, o + 1, none⟩ = some (.slice A c.rs.length k) ∧ RowsV w S (.slice A c.rs.length k) c.rs ∧ c.rs.length ≤ k ∧ k ≤ 9223372036854775807 ∧ I64 c.n ∧ b < w.heap.size
theorem ChartAt.keep {S T : Nat → Prop} {w w' : World} {b o : Nat} {c : ChartM} (h : ChartAt w S b o c) (g : Chg T w w') (hd : ∀ b, b < w.heap.size → S b → ¬ T b) (hb : ¬ T b) : ChartAt w' S b o c := by
  obtain ⟨A, k, h1, h2, h3, h4, h5, h6, h7⟩ := h
  exact ⟨A, k, g.cell h1 hb, g.cell h2 hb, h3.keep g hd, h4, h5, h6, Nat.lt_of_lt_of_le h7 g.size⟩
theorem ChartAt.up {S : Nat → Prop} {w w' : World} {b o : Nat} {c : ChartM} (h : ChartAt w S b o c) (g : Up w w') : ChartAt w' S b o c := h.keep g (fun _ _ _ h => h) id
end Go.Proofs.Ytplabnjdhkmmkaa
end
section
set_option linter.unusedSimpArgs false
set_option linter.unusedVariables false
namespace Go.Proofs.Ytplabnjdhkmmkaa
open Go.ChangeShapes Go.WideShapes Go.ChangeAt Go.RowKit
set_option maxRecDepth 100000
set_option maxHeartbeats 400000
end Go.Proofs.Ytplabnjdhkmmkaa
end
section
set_option maxRecDepth 100000
set_option maxHeartbeats 400000
set_option linter.unusedSimpArgs false
set_option linter.unusedVariables false
namespace Go.Proofs.Ytplabnjdhkmmkaa
open Go.ChangeShapes Go.WideShapes Go.ChangeAt Go.RowKit
end Go.Proofs.Ytplabnjdhkmmkaa
end
section
set_option maxRecDepth 100000
set_option maxHeartbeats 400000
set_option linter.unusedSimpArgs false
set_option linter.unusedVariables false
namespace Go.Proofs.Ytplabnjdhkmmkaa
open Go.ChangeShapes Go.WideShapes Go.ChangeAt Go.RowKit
theorem ChartV.up {w w' : World} {S : Nat → Prop} {v : Value} {c : ChartM} (h : ChartV w S v c) (g : Up w w') : ChartV w' S v c :=
  let ⟨s, h1, h2, h3⟩ := h; ⟨s, h1, h2.up g, h3⟩
end Go.Proofs.Ytplabnjdhkmmkaa
end
section
set_option maxRecDepth 100000
set_option maxHeartbeats 400000
set_option linter.unusedSimpArgs false
set_option linter.unusedVariables false
namespace Go.Proofs.Ytplabnjdhkmmkaa
open Go.ChangeShapes Go.WideShapes Go.ChangeAt Go.RowKit
theorem RowAt.val {w : World} {S : Nat → Prop} {b o : Nat} {r : RowM} (h : RowAt w S b o r) : ∃ A c, w.cell? ⟨b, o, none⟩ = some (.int .i64 r.d) ∧ w.cell? ⟨b, o + 1, none⟩ = some (.int .i64 r.c) ∧ w.cell? ⟨b, o + 2, none⟩ = some (.slice A r.xs.length c) ∧ RowV w S (.agg #[.int .i64 r.d, .int .i64 r.c, .slice A r.xs.length c]) r := by
  obtain ⟨A, c, h1, h2, h3, h4, h5, h6, h7, h8⟩ := h
  exact ⟨A, c, h1, h2, h3, _, rfl, h4, h7⟩
end Go.Proofs.Ytplabnjdhkmmkaa
end
section
set_option maxRecDepth 100000
set_option maxHeartbeats 1000000
set_option linter.unusedSimpArgs false
set_option linter.unusedVariables false
namespace Go.Proofs.Ytplabnjdhkmmkaa
open Go.ChangeShapes Go.WideShapes Go.ChangeAt Go.RowKit
theorem Copying.grow {w : World} {b m n j : Nat} {cs : List Value} (h : Copying w b m n j cs) (hl : cs.length = j * m) (vs : List Value) : Copying w b m n j (cs ++ vs) := fun t ht => by
  obtain ⟨h1, h2, h3⟩ := h t ht
  refine ⟨h1, h2, fun hlt => ?_⟩
  rw [h3 hlt, List.getElem?_append_left (by omega)]
/-- the rows that were copied so far -/
def RowsIn (w : World) (g : Nat) (cs : List Value) (rs : List RowM) (j : Nat) : Prop :=
  ∀ i (hi : i < rs.length), i < j → ∃ A c, cs[i * 3]? = some (.int .i64 rs[i].d) ∧ cs[i * 3 + 1]? = some (.int .i64 rs[i].c) ∧ cs[i * 3 + 2]? = some (.slice A rs[i].xs.length c) ∧ Ints w (fun b => g < b) (.slice A rs[i].xs.length c) rs[i].xs ∧ rs[i].xs.length ≤ c ∧ c ≤ 9223372036854775807
theorem RowsIn.keep {S : Nat → Prop} {w w' : World} {g : Nat} {cs : List Value} {rs : List RowM} {j : Nat} (h : RowsIn w g cs rs j) (k : Chg S w w') (hS : ∀ b, b < w.heap.size → g < b → ¬ S b) : RowsIn w' g cs rs j := fun i hi hij =>
  let ⟨A, c, h1, h2, h3, h4, h5⟩ := h i hi hij; ⟨A, c, h1, h2, h3, h4.keep k hS, h5⟩
theorem RowsIn.next {w : World} {g : Nat} {cs : List Value} {rs : List RowM} {j : Nat} (h : RowsIn w g cs rs j) (hl : cs.length = j * 3) (hj : j < rs.length) {A : Option Addr} {c : Nat} (hi : Ints w (fun b => g < b) (.slice A rs[j].xs.length c) rs[j].xs) (h1 : rs[j].xs.length ≤ c) (h2 : c ≤ 9223372036854775807) :
    RowsIn w g (cs ++ [.int .i64 rs[j].d, .int .i64 rs[j].c, .slice A rs[j].xs.length c]) rs (j + 1) := fun i hi' hij => by
  by_cases he : i < j
  · obtain ⟨A', c', k1, k2, k3, k4⟩ := h i hi' he
    exact ⟨A', c', by rw [List.getElem?_append_left (by omega)]; exact k1, by rw [List.getElem?_append_left (by omega)]; exact k2, by rw [List.getElem?_append_left (by omega)]; exact k3, k4⟩
  · obtain rfl : i = j := by omega
    exact ⟨A, c, by rw [List.getElem?_append_right (by omega), hl]; simp, by rw [List.getElem?_append_right (by omega), hl]; simp, by rw [List.getElem?_append_right (by omega), hl]; simp, hi, h1, h2⟩
end Go.Proofs.Ytplabnjdhkmmkaa
end
section
set_option maxRecDepth 100000
set_option maxHeartbeats 1000000
set_option linter.unusedSimpArgs false
set_option linter.unusedVariables false
namespace Go.Proofs.Ytplabnjdhkmmkaa
open Go.ChangeShapes Go.WideShapes Go.ChangeAt Go.RowKit
end Go.Proofs.Ytplabnjdhkmmkaa
end
section
set_option maxRecDepth 100000
set_option maxHeartbeats 400000
set_option linter.unusedSimpArgs false
set_option linter.unusedVariables false
namespace Go.Proofs.Ytplabnjdhkmmkaa
open Go.ChangeShapes Go.WideShapes Go.ChangeAt Go.RowKit
end Go.Proofs.Ytplabnjdhkmmkaa
end
section
set_option maxRecDepth 100000
set_option maxHeartbeats 1000000
set_option linter.unusedSimpArgs false
set_option linter.unusedVariables false
namespace Go.Proofs.Ytplabnjdhkmmkaa
open Go.ChangeShapes Go.WideShapes Go.ChangeAt Go.RowKit
/-- rows in one block; the numbers of each in blocks of their own -/
def RowsX (w : World) (S : Nat → Prop) (v : Value) (rs : List RowM) : Prop :=
  ∃ (A : Option Addr) (c : Nat) (Q : Nat → Nat → Prop), v = .slice A rs.length c ∧ rs.length ≤ c ∧ c ≤ 9223372036854775807 ∧ (A = none → c = 0) ∧ (∀ i j x, Q i x → Q j x → i = j) ∧
    (0 < rs.length → ∃ b o, A = some ⟨b, o, none⟩ ∧ S b ∧ (∀ i x, Q i x → S x ∧ x ≠ b) ∧ ∀ i (hi : i < rs.length), RowAt w (Q i) b (o + i * 3) rs[i] ∧ w.frozen? ⟨b, o + i * 3, none⟩ = false ∧ w.frozen? ⟨b, o + i * 3 + 1, none⟩ = false)
section
variable {S T : Nat → Prop} {w w' : World} {v : Value} {rs : List RowM}
theorem RowsX.rv (h : RowsX w S v rs) : RowsV w S v rs := by
  obtain ⟨A, c, Q, hv, h1, h2, h3, h4, h5⟩ := h
  refine ⟨A, c, hv, h1, h2, fun hp => ?_, h3⟩
  obtain ⟨b, o, ha, hs, hq, hc⟩ := h5 hp
  exact ⟨b, o, ha, hs, fun i hi => (hc i hi).1.mono fun x _ hx => (hq i x hx).1⟩
theorem RowsX.keep (h : RowsX w S v rs) (g : Chg T w w') (hd : ∀ b, b < w.heap.size → S b → ¬ T b) : RowsX w' S v rs := by
  obtain ⟨A, c, Q, hv, h1, h2, h3, h4, h5⟩ := h
  refine ⟨A, c, Q, hv, h1, h2, h3, h4, fun hp => ?_⟩
  obtain ⟨b, o, ha, hs, hq, hc⟩ := h5 hp
  refine ⟨b, o, ha, hs, hq, fun i hi => ?_⟩
  obtain ⟨k1, k2, k3⟩ := hc i hi
  have hn : ¬ T b := hd b k1.lt hs
  refine ⟨k1.keep g (fun x hx hqx => hd x hx (hq i x hqx).1) hn, ?_, ?_⟩
  · obtain ⟨A', c', e1, -⟩ := k1
    exact (g.frozen e1 hn).trans k2
  · obtain ⟨A', c', -, e2, -⟩ := k1
    exact (g.frozen e2 hn).trans k3
theorem RowsX.up (h : RowsX w S v rs) (g : Up w w') : RowsX w' S v rs := h.keep g fun _ _ _ h => h
theorem RowsX.mono (h : RowsX w S v rs) (hs : ∀ b, b < w.heap.size → S b → T b) : RowsX w T v rs := by
  obtain ⟨A, c, Q, hv, h1, h2, h3, h4, h5⟩ := h
  refine ⟨A, c, fun i x => Q i x ∧ x < w.heap.size, hv, h1, h2, h3, fun i j x a b => h4 i j x a.1 b.1, fun hp => ?_⟩
  obtain ⟨b, o, ha, hS, hq, hc⟩ := h5 hp
  exact ⟨b, o, ha, hs b (hc 0 hp).1.lt hS, fun i x hx => ⟨hs x hx.2 (hq i x hx.1).1, (hq i x hx.1).2⟩, fun i hi => ⟨(hc i hi).1.mono fun x hx hq => ⟨hq, hx⟩, (hc i hi).2⟩⟩
theorem RowsX.shape (h : RowsX w S v rs) : ∃ A c, v = .slice A rs.length c ∧ rs.length ≤ c ∧ c ≤ 9223372036854775807 ∧ (A = none → c = 0) :=
  let ⟨A, c, _, h1, h2, h3, h4, _⟩ := h; ⟨A, c, h1, h2, h3, h4⟩
/-- a row, and what is known when it has been marked -/
theorem RowsX.at_ {A : Option Addr} {c : Nat} (h : RowsX w S (.slice A rs.length c) rs) {j : Nat} (hj : j < rs.length) : ∃ b o A3 c3, ∃ Qj : Nat → Prop, A = some ⟨b, o, none⟩ ∧ w.cell? ⟨b, o + j * 3, none⟩ = some (.int .i64 rs[j].d) ∧ w.cell? ⟨b, o + j * 3 + 1, none⟩ = some (.int .i64 rs[j].c) ∧ w.cell? ⟨b, o + j * 3 + 2, none⟩ = some (.slice A3 rs[j].xs.length c3) ∧
    w.frozen? ⟨b, o + j * 3, none⟩ = false ∧ w.frozen? ⟨b, o + j * 3 + 1, none⟩ = false ∧ Ints w Qj (.slice A3 rs[j].xs.length c3) rs[j].xs ∧ rs[j].xs.length ≤ c3 ∧ c3 ≤ 9223372036854775807 ∧ (∀ x, Qj x → S x) ∧ S b ∧ ¬ Qj b ∧
    ∀ (a a' : Int) (ys : List Int) (w3 : World), I64 a → I64 a' → ys.length = rs[j].xs.length → Chg Qj ((w.setCell ⟨b, o + j * 3, none⟩ (.int .i64 a)).setCell ⟨b, o + j * 3 + 1, none⟩ (.int .i64 a')) w3 → Ints w3 Qj (.slice A3 rs[j].xs.length c3) ys → RowsX w3 S (.slice A rs.length c) (rs.set j ⟨a, a', ys⟩) := by
  obtain ⟨A', c', Q, hv, h1, h2, h3, h4, h5⟩ := h
  obtain ⟨rfl, rfl⟩ : A = A' ∧ c = c' := by simpa using hv
  obtain ⟨b, o, ha, hs, hq, hc⟩ := h5 (by omega)
  obtain ⟨k1, k2, k3⟩ := hc j hj
  obtain ⟨A3, c3, e1, e2, e3, e4, e5, e6, e7, e8⟩ := k1
  refine ⟨b, o, A3, c3, Q j, ha, e1, e2, e3, k2, k3, e4, e5, e6, fun x hx => (hq j x hx).1, hs, fun hx => (hq j b hx).2 rfl, ?_⟩
  intro a a' ys w3 ia ia' hl hg hi
  have g0 : Chg (fun x => x = b) w ((w.setCell ⟨b, o + j * 3, none⟩ (.int .i64 a)).setCell ⟨b, o + j * 3 + 1, none⟩ (.int .i64 a')) := Chg.setCell (Chg.setCell (Chg.refl (fun x => x = b) w) (p := ⟨b, o + j * 3, none⟩) (.inl rfl) _) (p := ⟨b, o + j * 3 + 1, none⟩) (.inl rfl) _
  refine ⟨A, c, Q, by rw [List.length_set], by rw [List.length_set]; exact h1, h2, h3, h4, fun _ => ⟨b, o, ha, hs, hq, fun i hi2 => ?_⟩⟩
  rw [List.length_set] at hi2
  have hnb : ¬ Q j b := fun hx => (hq j b hx).2 rfl
  have fr : ∀ t, (((w.setCell ⟨b, o + j * 3, none⟩ (.int .i64 a)).setCell ⟨b, o + j * 3 + 1, none⟩ (.int .i64 a')).cell? ⟨b, t, none⟩).isSome = true → w.frozen? ⟨b, t, none⟩ = false → w3.frozen? ⟨b, t, none⟩ = false := fun t ht hf => by
    obtain ⟨u, hu⟩ := Option.isSome_iff_exists.1 ht
    rw [hg.frozen hu hnb]
    simpa using hf
  by_cases hij : i = j
  · subst hij
    have c1 : ((w.setCell ⟨b, o + i * 3, none⟩ (.int .i64 a)).setCell ⟨b, o + i * 3 + 1, none⟩ (.int .i64 a')).cell? ⟨b, o + i * 3, none⟩ = some (.int .i64 a) := by
      rw [World.cell?_setCell_other _ _ _ _ (fun h => by injection h with _ h _; omega)]
      exact World.cell?_setCell_same _ _ _ e1
    have c2 : ((w.setCell ⟨b, o + i * 3, none⟩ (.int .i64 a)).setCell ⟨b, o + i * 3 + 1, none⟩ (.int .i64 a')).cell? ⟨b, o + i * 3 + 1, none⟩ = some (.int .i64 a') :=
      World.cell?_setCell_same _ _ _ ((World.cell?_setCell_other _ _ _ _ (fun h => by injection h with _ h _; omega)).trans e2)
    have c3' : ((w.setCell ⟨b, o + i * 3, none⟩ (.int .i64 a)).setCell ⟨b, o + i * 3 + 1, none⟩ (.int .i64 a')).cell? ⟨b, o + i * 3 + 2, none⟩ = some (.slice A3 rs[i].xs.length c3) := by
      rw [World.cell?_setCell_other _ _ _ _ (fun h => by injection h with _ h _; omega), World.cell?_setCell_other _ _ _ _ (fun h => by injection h with _ h _; omega)]
      exact e3
    have c5 := hg.cell c1 hnb
    have c6 := hg.cell c2 hnb
    have c7 := hg.cell c3' hnb
    refine ⟨?_, fr _ (by rw [c1]; rfl) k2, fr _ (by rw [c2]; rfl) k3⟩
    rw [List.getElem_set_self]
    refine ⟨A3, c3, c5, c6, by rw [hl]; exact c7, by rw [hl]; exact hi, by rw [hl]; exact e5, e6, ⟨ia, ia'⟩, World.block_lt_of_cell? _ _ c5⟩
  · obtain ⟨m1, m2, m3⟩ := hc i hi2
    obtain ⟨A4, c4, d1, d2, d3, d4, d5, d6, d7, d8⟩ := m1
    have st : ∀ t, t < 3 → ∀ u, w.cell? ⟨b, o + i * 3 + t, none⟩ = some u → ((w.setCell ⟨b, o + j * 3, none⟩ (.int .i64 a)).setCell ⟨b, o + j * 3 + 1, none⟩ (.int .i64 a')).cell? ⟨b, o + i * 3 + t, none⟩ = some u := fun t ht u hu => by
      rw [World.cell?_setCell_other _ _ _ _ (fun h => by injection h with _ h _; omega), World.cell?_setCell_other _ _ _ _ (fun h => by injection h with _ h _; omega)]
      exact hu
    have c1 := st 0 (by omega) _ d1
    have c2 := st 1 (by omega) _ d2
    have c3' := st 2 (by omega) _ d3
    have c5 := hg.cell c1 hnb
    have c6 := hg.cell c2 hnb
    have c7 := hg.cell c3' hnb
    refine ⟨?_, fr _ (by rw [show o + i * 3 = o + i * 3 + 0 from rfl, c1]; rfl) m2, fr _ (by rw [c2]; rfl) m3⟩
    rw [List.getElem_set_ne (fun h => hij h.symm)]
    have hI : Ints w3 (Q i) (.slice A4 rs[i].xs.length c4) rs[i].xs := ((d4.keep g0 (fun x _ hx hb => (hq i x hx).2 hb)).keep hg (fun x _ hx hx2 => hij (h4 i j x hx hx2)))
    exact ⟨A4, c4, c5, c6, c7, hI, d5, d6, d7, World.block_lt_of_cell? _ _ c5⟩
end
/-- the rows that were copied so far -/
def RowsIn2 (w : World) (g B : Nat) (cs : List Value) (rs : List RowM) (j : Nat) : Prop :=
  ∃ Q : Nat → Nat → Prop, (∀ i x, Q i x → g < x ∧ x < B) ∧ (∀ i k x, Q i x → Q k x → i = k) ∧
    ∀ i (hi : i < rs.length), i < j → ∃ A c, cs[i * 3]? = some (.int .i64 rs[i].d) ∧ cs[i * 3 + 1]? = some (.int .i64 rs[i].c) ∧ cs[i * 3 + 2]? = some (.slice A rs[i].xs.length c) ∧ Ints w (Q i) (.slice A rs[i].xs.length c) rs[i].xs ∧ rs[i].xs.length ≤ c ∧ c ≤ 9223372036854775807
theorem RowsIn2.keep {S : Nat → Prop} {w w' : World} {g B : Nat} {cs : List Value} {rs : List RowM} {j : Nat} (h : RowsIn2 w g B cs rs j) (k : Chg S w w') (hS : ∀ b, b < w.heap.size → g < b → ¬ S b) : RowsIn2 w' g B cs rs j := by
  obtain ⟨Q, h1, h2, h3⟩ := h
  refine ⟨Q, h1, h2, fun i hi hij => ?_⟩
  obtain ⟨A, c, k1, k2, k3, k4, k5⟩ := h3 i hi hij
  exact ⟨A, c, k1, k2, k3, k4.keep k (fun b hb hq => hS b hb (h1 i b hq).1), k5⟩
theorem RowsIn2.le {w : World} {g B B' : Nat} {cs : List Value} {rs : List RowM} {j : Nat} (h : RowsIn2 w g B cs rs j) (hB : B ≤ B') : RowsIn2 w g B' cs rs j := by
  obtain ⟨Q, h1, h2, h3⟩ := h
  exact ⟨Q, fun i x hx => ⟨(h1 i x hx).1, by have := (h1 i x hx).2; omega⟩, h2, h3⟩
theorem RowsIn2.next {w : World} {g B : Nat} {cs : List Value} {rs : List RowM} {j : Nat} (h : RowsIn2 w g B cs rs j) (hgB : g < B) (hl : cs.length = j * 3) (hj : j < rs.length) {A : Option Addr} {c : Nat} (hB : B ≤ w.heap.size) (hi : Ints w (fun b => B ≤ b) (.slice A rs[j].xs.length c) rs[j].xs) (h1 : rs[j].xs.length ≤ c) (h2 : c ≤ 9223372036854775807) :
    RowsIn2 w g w.heap.size (cs ++ [.int .i64 rs[j].d, .int .i64 rs[j].c, .slice A rs[j].xs.length c]) rs (j + 1) := by
  obtain ⟨Q, q1, q2, q3⟩ := h
  refine ⟨fun i x => (i < j ∧ Q i x) ∨ (i = j ∧ B ≤ x ∧ x < w.heap.size), ?_, ?_, fun i hi' hij => ?_⟩
  · rintro i x (⟨_, hq⟩ | ⟨_, hq⟩)
    · have := q1 i x hq; omega
    · omega
  · rintro i k x (⟨_, hq⟩ | ⟨e1, hq⟩) (⟨_, hq'⟩ | ⟨e2, hq'⟩)
    · exact q2 i k x hq hq'
    · have := (q1 i x hq).2; omega
    · have := (q1 k x hq').2; omega
    · omega
  by_cases he : i < j
  · obtain ⟨A', c', k1, k2, k3, k4, k5⟩ := q3 i hi' he
    exact ⟨A', c', by rw [List.getElem?_append_left (by omega)]; exact k1, by rw [List.getElem?_append_left (by omega)]; exact k2, by rw [List.getElem?_append_left (by omega)]; exact k3, k4.mono (fun b _ hb => .inl ⟨he, hb⟩), k5⟩
  · obtain rfl : i = j := by omega
    exact ⟨A, c, by rw [List.getElem?_append_right (by omega), hl]; simp, by rw [List.getElem?_append_right (by omega), hl]; simp, by rw [List.getElem?_append_right (by omega), hl]; simp, hi.mono (fun b hb hq => .inr ⟨rfl, hq, hb⟩), h1, h2⟩
def SameLen (rs rs' : List RowM) : Prop := rs'.length = rs.length ∧ ∀ i (h : i < rs.length) (h' : i < rs'.length), rs'[i].xs.length = rs[i].xs.length
theorem SameLen.set {rs rs' : List RowM} (h : SameLen rs rs') {j : Nat} (r : RowM) (hr : ∀ (h : j < rs.length), r.xs.length = rs[j].xs.length) : SameLen rs (rs'.set j r) := by
  refine ⟨by rw [List.length_set]; exact h.1, fun i hi hi' => ?_⟩
  by_cases e : i = j
  · subst e; rw [List.getElem_set_self]; exact hr hi
  · rw [List.getElem_set_ne (fun h => e h.symm)]; exact h.2 i hi _
/-- a chart whose rows' numbers lie in blocks apart -/
def ChartX (w : World) (S : Nat → Prop) (v : Value) (c : ChartM) : Prop := ∃ s, v = .agg #[.int .i64 c.n, s] ∧ RowsX w S s c.rs ∧ I64 c.n
theorem ChartX.cv {w : World} {S : Nat → Prop} {v : Value} {c : ChartM} (h : ChartX w S v c) : ChartV w S v c := let ⟨s, h1, h2, h3⟩ := h; ⟨s, h1, h2.rv, h3⟩
theorem ChartX.keep {S T : Nat → Prop} {w w' : World} {v : Value} {c : ChartM} (h : ChartX w S v c) (g : Chg T w w') (hd : ∀ b, b < w.heap.size → S b → ¬ T b) : ChartX w' S v c := let ⟨s, h1, h2, h3⟩ := h; ⟨s, h1, h2.keep g hd, h3⟩
theorem ChartX.up {S : Nat → Prop} {w w' : World} {v : Value} {c : ChartM} (h : ChartX w S v c) (g : Up w w') : ChartX w' S v c := let ⟨s, h1, h2, h3⟩ := h; ⟨s, h1, h2.up g, h3⟩
theorem ChartV.keep {S T : Nat → Prop} {w w' : World} {v : Value} {c : ChartM} (h : ChartV w S v c) (g : Chg T w w') (hd : ∀ b, b < w.heap.size → S b → ¬ T b) : ChartV w' S v c := let ⟨s, h1, h2, h3⟩ := h; ⟨s, h1, h2.keep g hd, h3⟩
end Go.Proofs.Ytplabnjdhkmmkaa
end
section
set_option linter.unusedSimpArgs false
set_option linter.unusedVariables false
namespace Go.Proofs.Ytplabnjdhkmmkaa
def insM (x : Int) : List Int → List Int
  | [] => [x]
  | y :: ys => if y ≥ x then (if y > x then x :: y :: ys else y :: ys) else y :: insM x ys
theorem insM_mem (x z : Int) : ∀ ys : List Int, z ∈ insM x ys ↔ z = x ∨ z ∈ ys
  | [] => by simp [insM]
  | y :: ys => by
    unfold insM
    split
    · split
      · simp
      · have : y = x := by omega
        subst this
        simp
    · rw [List.mem_cons, insM_mem x z ys, List.mem_cons]
      constructor
      · rintro (h | h | h)
        · exact .inr (.inl h)
        · exact .inl h
        · exact .inr (.inr h)
      · rintro (h | h | h)
        · exact .inr (.inl h)
        · exact .inl h
        · exact .inr (.inr h)
theorem insM_sorted (x : Int) : ∀ {ys : List Int}, ys.Pairwise (· < ·) → (insM x ys).Pairwise (· < ·)
  | [], _ => by simp [insM]
  | y :: ys, h => by
    unfold insM
    rw [List.pairwise_cons] at h
    split
    · split
      · rename_i h1 h2
        rw [List.pairwise_cons]
        refine ⟨fun z hz => ?_, List.pairwise_cons.2 h⟩
        rcases List.mem_cons.1 hz with rfl | hz
        · exact h2
        · have := h.1 z hz; omega
      · exact List.pairwise_cons.2 h
    · rename_i h1
      rw [List.pairwise_cons]
      refine ⟨fun z hz => ?_, insM_sorted x h.2⟩
      rcases (insM_mem x z ys).1 hz with rfl | hz
      · omega
      · exact h.1 z hz
end Go.Proofs.Ytplabnjdhkmmkaa
end
