/- A machine's struct is put into a box. No condition. Plain words for permutations, their descents and inverses, and for normal forms. No condition. slices.Reverse on numbers. No condition. Permutations: small functions on both sides. No condition. SameProof on both sides. No condition. Permutations: validity, start letters, missing letters on both sides. No condition. Missing letters on both sides. No condition. Machines: the reference's tests on loops. No condition. -/
import Derived.Test.YtplabnjdhkmmkaaMOwn
import Derived.Test.YtplabnjdhkmmkaaPF10
import Derived.Test.YtplabnjdhkmmkaaPF6
import Derived.RegionTactic
import Derived.ChangeAlike
import Derived.Test.YtplabnjdhkmmkaaPF11
section
set_option linter.unusedSimpArgs false
set_option linter.unusedVariables false
namespace Go.Proofs.Ytplabnjdhkmmkaa
open Go.ChangeShapes Go.WideShapes Go.ChangeAt Go.RowKit
section
variable {w : World} {S T : Nat → Prop} {K g : Nat} {m : MachM} {F B C L D : Value} {fs bs : List Value}
theorem MachV.put (h : MachV w S K m F B C L D fs bs) (hs : ∀ b, S b → T b) (sg : T g) (ng : ¬ S g)
    (c0 : CellU w ⟨g, 0, none⟩ (.int .i64 m.wd)) (c1 : CellU w ⟨g, 1, none⟩ (.int .i64 m.rack)) (c2 : CellU w ⟨g, 2, none⟩ F) (c3 : CellU w ⟨g, 3, none⟩ B) (c4 : CellU w ⟨g, 4, none⟩ C) (c5 : CellU w ⟨g, 5, none⟩ L) (c6 : CellU w ⟨g, 6, none⟩ D) :
    MachX w T K g m F B C L D fs bs := by
  refine ⟨sg, c0, c1, c2, c3, c4, c5, c6, h.f, h.b, h.fl, h.bl, h.fi, h.bi, h.c, h.l, h.d, fun v hv x hx => hs x (h.own v hv x hx), List.pairwise_cons.2 ⟨fun v hv x hx hvx => ?_, h.ap⟩, ?_⟩
  · obtain rfl : g = x := by simpa [Value.ownBlock] using hx
    exact ng (h.own v hv g hvx)
  · obtain ⟨cs, h1, h2⟩ := h.ps
    refine ⟨cs, h1, fun i hi => ?_⟩
    obtain ⟨k, c, b, a, d, A, n, xs, P, e, hx, hl, hp⟩ := h2 i hi
    refine ⟨k, c, b, a, d, A, n, xs, P, e, hx, hl, fun x hx2 => ⟨hs x (hp x hx2).1, (hp x hx2).2.1, fun v hv e2 => ?_⟩⟩
    rcases List.mem_cons.1 hv with rfl | hv
    · obtain rfl : g = x := by simpa [Value.ownBlock] using e2
      exact ng (hp g hx2).1
    · exact (hp x hx2).2.2 v hv e2
/-- the struct is stored, field by field -/
theorem MachV.stored (h : MachV w S K m F B C L D fs bs) (hs : ∀ b, S b → T b) (sg : T g) (ng : ¬ S g) (o : ∀ t, t < 7 → ∃ u, CellU w ⟨g, t, none⟩ u) :
    MachX (((((((w.setCell ⟨g, 0, none⟩ (.int .i64 m.wd)).setCell ⟨g, 1, none⟩ (.int .i64 m.rack)).setCell ⟨g, 2, none⟩ F).setCell ⟨g, 3, none⟩ B).setCell ⟨g, 4, none⟩ C).setCell ⟨g, 5, none⟩ L).setCell ⟨g, 6, none⟩ D) T K g m F B C L D fs bs := by
  have CF : Chg (fun b => b = g) w (((((((w.setCell ⟨g, 0, none⟩ (.int .i64 m.wd)).setCell ⟨g, 1, none⟩ (.int .i64 m.rack)).setCell ⟨g, 2, none⟩ F).setCell ⟨g, 3, none⟩ B).setCell ⟨g, 4, none⟩ C).setCell ⟨g, 5, none⟩ L).setCell ⟨g, 6, none⟩ D) := by
    repeat (first | (with_reducible exact Chg.refl _ _) | (with_reducible refine Chg.setCell ?_ (.inl (show g = g from rfl)) _))
  have ne : ∀ s t : Nat, s ≠ t → (⟨g, s, none⟩ : Addr) ≠ ⟨g, t, none⟩ := fun s t h e => h (by injection e)
  obtain ⟨u0, o0⟩ := o 0 (by omega)
  obtain ⟨u1, o1⟩ := o 1 (by omega)
  obtain ⟨u2, o2⟩ := o 2 (by omega)
  obtain ⟨u3, o3⟩ := o 3 (by omega)
  obtain ⟨u4, o4⟩ := o 4 (by omega)
  obtain ⟨u5, o5⟩ := o 5 (by omega)
  obtain ⟨u6, o6⟩ := o 6 (by omega)
  refine (h.keep CF (fun b _ hb e => ng (by rw [← show b = g from e]; exact hb))).put hs sg ng ?_ ?_ ?_ ?_ ?_ ?_ ?_
  · exact (((((((o0.set_same).set_other (ne 1 0 (by omega))).set_other (ne 2 0 (by omega))).set_other (ne 3 0 (by omega))).set_other (ne 4 0 (by omega))).set_other (ne 5 0 (by omega))).set_other (ne 6 0 (by omega)))
  · exact (((((((o1.set_other (ne 0 1 (by omega))).set_same).set_other (ne 2 1 (by omega))).set_other (ne 3 1 (by omega))).set_other (ne 4 1 (by omega))).set_other (ne 5 1 (by omega))).set_other (ne 6 1 (by omega)))
  · exact (((((((o2.set_other (ne 0 2 (by omega))).set_other (ne 1 2 (by omega))).set_same).set_other (ne 3 2 (by omega))).set_other (ne 4 2 (by omega))).set_other (ne 5 2 (by omega))).set_other (ne 6 2 (by omega)))
  · exact (((((((o3.set_other (ne 0 3 (by omega))).set_other (ne 1 3 (by omega))).set_other (ne 2 3 (by omega))).set_same).set_other (ne 4 3 (by omega))).set_other (ne 5 3 (by omega))).set_other (ne 6 3 (by omega)))
  · exact (((((((o4.set_other (ne 0 4 (by omega))).set_other (ne 1 4 (by omega))).set_other (ne 2 4 (by omega))).set_other (ne 3 4 (by omega))).set_same).set_other (ne 5 4 (by omega))).set_other (ne 6 4 (by omega)))
  · exact (((((((o5.set_other (ne 0 5 (by omega))).set_other (ne 1 5 (by omega))).set_other (ne 2 5 (by omega))).set_other (ne 3 5 (by omega))).set_other (ne 4 5 (by omega))).set_same).set_other (ne 6 5 (by omega)))
  · exact (((((((o6.set_other (ne 0 6 (by omega))).set_other (ne 1 6 (by omega))).set_other (ne 2 6 (by omega))).set_other (ne 3 6 (by omega))).set_other (ne 4 6 (by omega))).set_other (ne 5 6 (by omega))).set_same)
end
end Go.Proofs.Ytplabnjdhkmmkaa
end
section
set_option linter.unusedSimpArgs false
set_option linter.unusedVariables false
namespace Go.Proofs.Ytplabnjdhkmmkaa
open Go.ChangeShapes Go.WideShapes Go.ChangeAt Go.RowKit
/-- a slice of numbers of which one is set -/
theorem Ints.set {w : World} {S : Nat → Prop} {b o c : Nat} {xs : List Int} (h : Ints w S (.slice (some ⟨b, o, none⟩) xs.length c) xs) {k : Nat} (hk : k < xs.length) {x : Int} (hx : I64 x) : Ints (w.setCell ⟨b, o + k, none⟩ (.int .i64 x)) S (.slice (some ⟨b, o, none⟩) xs.length c) (xs.set k x) := by
  obtain ⟨A, c', hv, h1, h2, h3, h4, h5⟩ := h
  obtain ⟨rfl, rfl⟩ : some ⟨b, o, none⟩ = A ∧ c = c' := by simpa using hv
  obtain ⟨b', o', ha, hs, hb, hc⟩ := h4 (by omega)
  obtain ⟨rfl, rfl⟩ : b = b' ∧ o = o' := by simpa using ha
  refine ⟨_, c, by rw [List.length_set], by rw [List.length_set]; exact h1, h2, fun y hy => ?_, fun _ => ⟨b, o, rfl, hs, by simpa [World.setCell] using hb, fun t ht => ?_⟩, by simp⟩
  · rcases List.mem_or_eq_of_mem_set hy with h | h
    · exact h3 y h
    · rw [h]; exact hx
  · rw [List.length_set] at ht
    obtain ⟨c1, c2⟩ := hc t ht
    by_cases e : t = k
    · subst e
      rw [List.getElem_set_self]
      exact ⟨World.cell?_setCell_same _ _ _ c1, by simpa using c2⟩
    · rw [World.cell?_setCell_other _ _ _ _ (fun h => e (by injection h with _ h _; omega)), List.getElem_set_ne (fun h => e h.symm)]
      exact ⟨c1, by simpa using c2⟩
/-- whether a list is a permutation of few things -/
def permB (p : List Int) : Bool := decide (p.length ≤ 12) && decide (∀ x ∈ p, 0 ≤ x ∧ x < p.length) && decide p.Nodup
/-- the first j are fine -/
def permTo (p : List Int) (j : Nat) : Prop := ∀ i (hi : i < p.length), i < j → (0 ≤ p[i] ∧ p[i] < p.length) ∧ p[i] ∉ p.take i
theorem permTo.start (p : List Int) : permTo p 0 := fun _ _ h => absurd h (Nat.not_lt_zero _)
theorem permTo.next {p : List Int} {j : Nat} (h : permTo p j) (hj : j < p.length) (h1 : 0 ≤ p[j] ∧ p[j] < p.length) (h2 : p[j] ∉ p.take j) : permTo p (j + 1) := fun i hi hij => by
  by_cases e : i = j
  · subst e
    exact ⟨h1, h2⟩
  · exact h i hi (by omega)
theorem permTo.all {p : List Int} (h : permTo p p.length) (hl : p.length ≤ 12) : permB p = true := by
  unfold permB
  simp only [Bool.and_eq_true, decide_eq_true_eq]
  refine ⟨⟨hl, fun x hx => ?_⟩, ?_⟩
  · obtain ⟨i, hi, rfl⟩ := List.getElem_of_mem hx
    exact (h i hi hi).1
  · rw [List.nodup_iff_pairwise_ne, List.pairwise_iff_getElem]
    intro i j hi hj hij he
    refine (h j hj hj).2 ?_
    rw [← he, List.mem_take_iff_getElem]
    exact ⟨i, by omega, rfl⟩
/-- the places whose pair is an inversion, among the first j -/
def descTo (p : List Int) : Nat → List Int
  | 0 => []
  | j + 1 => if ix p (j + 1) < ix p j then descTo p j ++ [(j : Int)] else descTo p j
def descM (p : List Int) : List Int := descTo p (p.length - 1)
def startM (p : List Int) : List Int := (descM p).map (· + 1)
/-- the inverse -/
def invTo (p : List Int) : Nat → List Int
  | 0 => List.replicate p.length 0
  | j + 1 => (invTo p j).set (ix p j).toNat j
def invM (p : List Int) : List Int := invTo p p.length
/-- the first letter with which q begins and p does not end; 0 -/
def extraM (p q : List Int) : Int := ((startM q).find? fun k => !decide (k ∈ startM (invM p))).getD 0
def extraFrom (p q : List Int) (j : Nat) : Prop := ∀ i (hi : i < (startM q).length), i < j → (startM q)[i] ∈ startM (invM p)
theorem extraFrom.start (p q : List Int) : extraFrom p q 0 := fun _ _ h => absurd h (Nat.not_lt_zero _)
theorem extraFrom.next {p q : List Int} {j : Nat} (h : extraFrom p q j) (hj : j < (startM q).length) (h1 : (startM q)[j] ∈ startM (invM p)) : extraFrom p q (j + 1) := fun i hi hij => by
  by_cases e : i = j
  · subst e; exact h1
  · exact h i hi (by omega)
theorem extraFrom.all {p q : List Int} (h : extraFrom p q (startM q).length) : extraM p q = 0 := by
  unfold extraM
  rw [List.find?_eq_none.2]
  · rfl
  · intro x hx
    obtain ⟨i, hi, rfl⟩ := List.getElem_of_mem hx
    simpa using h i hi hi
theorem extraFrom.at_ {p q : List Int} {j : Nat} (h : extraFrom p q j) (hj : j < (startM q).length) (h1 : (startM q)[j] ∉ startM (invM p)) : extraM p q = (startM q)[j] := by
  unfold extraM
  rw [List.find?_eq_some_iff_getElem.2 ⟨by simpa using h1, j, hj, rfl, fun i hi => by simpa using h i (by omega) hi⟩]
  rfl
end Go.Proofs.Ytplabnjdhkmmkaa
end
section
set_option linter.unusedSimpArgs false
set_option linter.unusedVariables false
namespace Go.Proofs.Ytplabnjdhkmmkaa
open Go.ChangeShapes Go.WideShapes Go.ChangeAt Go.RowKit
end Go.Proofs.Ytplabnjdhkmmkaa
end
section
set_option maxRecDepth 100000
set_option maxHeartbeats 1000000
set_option linter.unusedSimpArgs false
set_option linter.unusedVariables false
namespace Go.Proofs.Ytplabnjdhkmmkaa
open Go.ChangeShapes Go.WideShapes Go.ChangeAt Go.RowKit
end Go.Proofs.Ytplabnjdhkmmkaa
end
section
set_option maxRecDepth 100000
set_option maxHeartbeats 1000000
set_option linter.unusedSimpArgs false
set_option linter.unusedVariables false
namespace Go.Proofs.Ytplabnjdhkmmkaa
open Go.ChangeShapes Go.WideShapes Go.ChangeAt Go.RowKit
end Go.Proofs.Ytplabnjdhkmmkaa
end
section
set_option maxRecDepth 100000
set_option maxHeartbeats 1000000
set_option linter.unusedSimpArgs false
set_option linter.unusedVariables false
namespace Go.Proofs.Ytplabnjdhkmmkaa
open Go.ChangeShapes Go.WideShapes Go.ChangeAt Go.RowKit
theorem callS {f : FuncId} {args : Array Value} {w : World} {b c : Bool} (h : Calls Try.prog f args w fun e w' => e = .returned (.bool b) ∧ w = w') (hb : b = c) : Calls Try.prog f args w fun e w' => e = .returned (.bool c) ∧ w = w' := hb ▸ h
theorem Ints.pre {w : World} {S : Nat → Prop} {A : Option Addr} {c : Nat} {xs : List Int} (h : Ints w S (.slice A xs.length c) xs) {k : Nat} (hk : k ≤ xs.length) : Ints w S (.slice A k c) (xs.take k) := by
  obtain ⟨A', c', he, h1, h2, h3, hr, h5⟩ := h
  obtain ⟨rfl, rfl⟩ : A = A' ∧ c = c' := by simpa using he
  have hl : (xs.take k).length = k := by rw [List.length_take]; omega
  refine ⟨A, c, by rw [hl], by omega, h2, fun x hx => h3 x (List.mem_of_mem_take hx), fun hp => ?_, h5⟩
  obtain ⟨b, o, hA, hs, hbl, hc⟩ := hr (by omega)
  refine ⟨b, o, hA, hs, hbl, fun j hj => ?_⟩
  rw [hl] at hj
  rw [List.getElem_take]
  exact hc j (by omega)
def Seen (w : World) (g : Nat) (p : List Int) (j : Nat) : Prop := ∀ k : Nat, k < 12 → w.cell? ⟨g, k, none⟩ = some (.bool (decide ((k : Int) ∈ p.take j))) ∧ w.frozen? ⟨g, k, none⟩ = false
theorem Seen.next {w : World} {g : Nat} {p : List Int} {j k : Nat} (h : Seen w g p j) (hj : j < p.length) (hk : p[j] = k) (hk2 : k < 12) : Seen (w.setCell ⟨g, k, none⟩ (.bool true)) g p (j + 1) := fun t ht => by
  obtain ⟨h1, h2⟩ := h t ht
  have e : p.take (j + 1) = p.take j ++ [p[j]] := List.take_succ_eq_append_getElem hj
  by_cases ek : t = k
  · subst ek
    refine ⟨?_, by simpa using h2⟩
    rw [World.cell?_setCell_same _ _ _ h1, e, decide_eq_true (by simp [hk])]
  · refine ⟨?_, by simpa using h2⟩
    rw [World.cell?_setCell_other _ _ _ _ (fun h => ek (by injection h with _ h _; omega)), h1, e]
    congr 2
    rw [decide_eq_decide]
    simp only [List.mem_append, List.mem_singleton]
    constructor
    · exact .inl
    · rintro (h | h)
      · exact h
      · exact absurd (by rw [hk] at h; omega) ek
end Go.Proofs.Ytplabnjdhkmmkaa
end
section
set_option maxRecDepth 100000
set_option maxHeartbeats 1000000
set_option linter.unusedSimpArgs false
set_option linter.unusedVariables false
namespace Go.Proofs.Ytplabnjdhkmmkaa
open Go.ChangeShapes Go.WideShapes Go.ChangeAt Go.RowKit
end Go.Proofs.Ytplabnjdhkmmkaa
end
section
set_option maxRecDepth 100000
set_option maxHeartbeats 4000000
set_option linter.unusedSimpArgs false
set_option linter.unusedVariables false
namespace Go.Proofs.Ytplabnjdhkmmkaa
open Go.ChangeShapes Go.WideShapes Go.ChangeAt Go.RowKit
def inTo (xs : List Int) (lo hi : Int) (j : Nat) : Prop := ∀ i (h : i < xs.length), i < j → lo ≤ xs[i] ∧ xs[i] ≤ hi
theorem inTo.next {xs : List Int} {lo hi : Int} {j : Nat} (h : inTo xs lo hi j) (hj : j < xs.length) (hx : lo ≤ xs[j] ∧ xs[j] ≤ hi) : inTo xs lo hi (j + 1) := fun i hi hij => by
  by_cases e : i = j
  · subst e; exact hx
  · exact h i hi (by omega)
end Go.Proofs.Ytplabnjdhkmmkaa
end
