/- Slices whose elements take m cells each and bear a reading of their own: nested slices, slices of structs with slices. No condition. -/
import Derived.Test.YtjgdcjhmfbefdaaUpR
import Derived.Test.YtjgdcjhmfbefdaaRec
import Derived.Test.YtjgdcjhmfbefdaaCopy
import Derived.Test.YtjgdcjhmfbefdaaRowLaw
set_option linter.unusedSimpArgs false
set_option linter.unusedVariables false
namespace Go.Proofs.Ytjgdcjhmfbefdaa
open Go.ChangeShapes Go.WideShapes Go.ChangeAt Go.RowKit
def Nst {α : Type} (m : Nat) (E : World → List Value → α → Prop) (w : World) (R : Nat → Prop) (v : Value) (xs : List α) : Prop :=
  ∃ cs, Raw w R m v xs.length cs ∧ ∀ i (hi : i < xs.length), E w ((cs.drop (i * m)).take m) xs[i]
section
variable {α : Type} {m : Nat} {E E' : World → List Value → α → Prop} {w w' : World} {R S T : Nat → Prop} {v : Value} {xs : List α}
theorem Nst.keep (h : Nst m E w R v xs) (hE : ∀ vs x, E w vs x → E' w' vs x) (g : Chg T w w') (hd : ∀ b, b < w.heap.size → R b → ¬ T b) : Nst m E' w' R v xs :=
  let ⟨cs, h1, h2⟩ := h; ⟨cs, h1.keep g hd, fun i hi => hE _ _ (h2 i hi)⟩
theorem Nst.up (h : Nst m E w R v xs) (hE : ∀ vs x, E w vs x → E w' vs x) (g : Up w w') : Nst m E w' R v xs := h.keep hE g fun _ _ _ h => h
theorem Nst.mono (h : Nst m E w R v xs) (hE : ∀ vs x, E w vs x → E' w vs x) (hs : ∀ b, b < w.heap.size → R b → S b) : Nst m E' w S v xs :=
  let ⟨cs, h1, h2⟩ := h; ⟨cs, h1.mono hs, fun i hi => hE _ _ (h2 i hi)⟩
theorem Nst.shape (h : Nst m E w R v xs) : ∃ A c, v = .slice A xs.length c ∧ xs.length ≤ c ∧ c ≤ 9223372036854775807 ∧ (A = none → c = 0) :=
  let ⟨_, h1, _⟩ := h; h1.shape
theorem Nst.nil (w : World) (R : Nat → Prop) (A : Option Addr) (c : Nat) (hc : c ≤ 9223372036854775807) (hA : A = none → c = 0 := by simp) : Nst m E w R (.slice A 0 c) ([] : List α) :=
  ⟨[], Raw.nil w R m c A hc hA, fun i hi => absurd hi (by simp)⟩
theorem chunk_lt {i n m j : Nat} (hi : i < n) (hj : j < m) : i * m + j < n * m := by
  have : (i + 1) * m ≤ n * m := Nat.mul_le_mul_right m hi
  rw [Nat.add_mul] at this
  omega
theorem Nst.at_ (h : Nst m E w R v xs) {i : Nat} (hi : i < xs.length) : ∃ b o c vs, v = .slice (some ⟨b, o, none⟩) xs.length c ∧ R b ∧ b < w.heap.size ∧ vs.length = m ∧ E w vs xs[i] ∧
    ∀ j u, vs[j]? = some u → w.cell? ⟨b, o + i * m + j, none⟩ = some u ∧ w.frozen? ⟨b, o + i * m + j, none⟩ = false := by
  obtain ⟨cs, ⟨h0, A, c, hv, h1, h2, h4, _⟩, h5⟩ := h
  obtain ⟨b, o, rfl, hs, hb, hc⟩ := h4 (by omega)
  have hlen : ((cs.drop (i * m)).take m).length = m := by
    have : (i + 1) * m ≤ xs.length * m := Nat.mul_le_mul_right m hi
    rw [Nat.add_mul] at this
    simp
    omega
  refine ⟨b, o, c, _, hv, hs, hb, hlen, h5 i hi, fun j u hu => ?_⟩
  have hj : j < m := by
    obtain ⟨hj, _⟩ := List.getElem?_eq_some_iff.1 hu
    omega
  have hlt := chunk_lt hi hj
  have hcc := hc (i * m + j) (by omega)
  rw [← Nat.add_assoc] at hcc
  rw [List.getElem?_take_of_lt hj, List.getElem?_drop] at hu
  obtain ⟨hj2, he⟩ := List.getElem?_eq_some_iff.1 hu
  rw [he] at hcc
  exact hcc
/-- the elements that were copied so far -/
def ChunkIn (m : Nat) (E : World → List Value → α → Prop) (w : World) (cs : List Value) (xs : List α) (j : Nat) : Prop :=
  cs.length = j * m ∧ ∀ i (hi : i < xs.length), i < j → E w ((cs.drop (i * m)).take m) xs[i]
theorem ChunkIn.start : ChunkIn m E w [] xs 0 := ⟨by simp, fun i _ h => by omega⟩
theorem ChunkIn.keep {cs : List Value} {j : Nat} (h : ChunkIn m E w cs xs j) (hE : ∀ vs x, E w vs x → E' w' vs x) : ChunkIn m E' w' cs xs j :=
  ⟨h.1, fun i hi hij => hE _ _ (h.2 i hi hij)⟩
theorem ChunkIn.next {cs vs : List Value} {j : Nat} (h : ChunkIn m E w cs xs j) (hj : j < xs.length) (hl : vs.length = m) (hv : E w vs xs[j]) : ChunkIn m E w (cs ++ vs) xs (j + 1) := by
  refine ⟨by rw [List.length_append, h.1, hl, Nat.add_mul]; omega, fun i hi hij => ?_⟩
  by_cases he : i < j
  · have hle : (i + 1) * m ≤ j * m := Nat.mul_le_mul_right m he
    rw [Nat.add_mul] at hle
    have h1 := h.1
    have e : ((cs ++ vs).drop (i * m)).take m = (cs.drop (i * m)).take m := by
      rw [List.drop_append_of_le_length (by omega), List.take_append_of_le_length (by simp; omega)]
    rw [e]
    exact h.2 i hi he
  · obtain rfl : i = j := by omega
    have e : ((cs ++ vs).drop (i * m)).take m = vs := by
      rw [← h.1, List.drop_left, ← hl, List.take_length]
    rw [e]
    exact hv
theorem Nst.done {cs : List Value} {b : Nat} (h : Copying w b m xs.length xs.length cs) (k : ChunkIn m E w cs xs xs.length) (hS : R b) (hb : b < w.heap.size) (hm : xs.length ≤ 9223372036854775807) : Nst m E w R (.slice (some ⟨b, 0, none⟩) xs.length xs.length) xs :=
  ⟨cs, Copying.done h hS hb k.1 hm, fun i hi => k.2 i hi hi⟩
theorem Copying.grows {b n j : Nat} {cs : List Value} (h : Copying w b m n j cs) (hl : cs.length = j * m) (vs : List Value) : Copying w b m n j (cs ++ vs) := fun t ht => by
  obtain ⟨h1, h2, h3⟩ := h t ht
  refine ⟨h1, h2, fun hlt => ?_⟩
  rw [h3 hlt, List.getElem?_append_left (by omega)]
/-- one element more is laid -/
theorem Copying.nextm {b n j : Nat} {cs vs : List Value} (h : Copying w b m n j cs) (hj : j < n) (hc : cs.length = j * m) (hl : vs.length = m) : Copying (w.setCells b (j * m) vs) b m n (j + 1) (cs ++ vs) :=
  Copying.next (Copying.grows h hc vs) hj hl fun i hi => by
    rw [List.getElem?_append_right (by omega), hc, Nat.add_sub_cancel_left]
    exact List.getElem?_eq_getElem hi
theorem Copying.next1 {b n j : Nat} {cs : List Value} (h : Copying w b 1 n j cs) (hj : j < n) (hc : cs.length = j * 1) (u : Value) : Copying (w.setCell ⟨b, j, none⟩ u) b 1 n (j + 1) (cs ++ [u]) := by
  have h1 := Copying.nextm h hj hc (vs := [u]) rfl
  rw [Nat.mul_one] at h1
  exact h1
/-- the sums of what the first elements are worth -/
def cntF (f : α → Nat) (xs : List α) (j : Nat) : Nat := ((xs.take j).map f).sum
theorem cntF_succ {f : α → Nat} {j : Nat} (h : j < xs.length) : cntF f xs (j + 1) = cntF f xs j + f xs[j] := by
  unfold cntF
  rw [List.take_succ_eq_append_getElem h, List.map_append, List.sum_append]
  simp
theorem cntF_le {f : α → Nat} {i j : Nat} (h : i ≤ j) : cntF f xs i ≤ cntF f xs j := by
  unfold cntF
  have e : (xs.take j) = (xs.take j).take i ++ (xs.take j).drop i := (List.take_append_drop i _).symm
  rw [List.take_take, Nat.min_eq_left h] at e
  rw [e]
  simp
def szF (f : α → Nat) (xs : List α) : Nat := xs.length + cntF f xs xs.length
theorem szF_at {f : α → Nat} {j : Nat} (h : j < xs.length) : f xs[j] + xs.length ≤ szF f xs := by
  have h1 := cntF_succ (f := f) h
  have h2 := cntF_le (f := f) (xs := xs) (show j + 1 ≤ xs.length by omega)
  unfold szF
  omega
end
theorem Up.of_eq {w w' : World} (h : w = w') : Up w w' := h ▸ Chg.refl _ _
theorem CellF.set {w : World} {p : Addr} {u u' : Value} (h : CellF w p u') : CellF (w.setCell p u) p u := ⟨World.cell?_setCell_same _ _ _ h.1, by simpa using h.2⟩
theorem CellF.set_ne {w : World} {p q : Addr} {u x : Value} (h : CellF w p u) (hn : p ≠ q) : CellF (w.setCell q x) p u := ⟨(World.cell?_setCell_other _ _ _ _ (Ne.symm hn)).trans h.1, by simpa using h.2⟩
/-- blocks between lo and hi, of three kinds: rows of structs, rows of slices, rows of numbers -/
def Apart3 (lo hi : Nat) (M H L : Nat → Prop) : Prop :=
  (∀ b, M b ∨ H b ∨ L b → lo ≤ b ∧ b < hi) ∧ (∀ b, M b → ¬ H b) ∧ (∀ b, M b → ¬ L b) ∧ (∀ b, H b → ¬ L b)
def Un (A B : Nat → Prop) : Nat → Prop := fun b => A b ∨ B b
theorem Apart3.none (lo hi : Nat) : Apart3 lo hi Nowhere Nowhere Nowhere := ⟨fun b h => h.elim (fun h => h.elim) fun h => h.elim (fun h => h.elim) fun h => h.elim, fun b h => h.elim, fun b h => h.elim, fun b h => h.elim⟩
theorem Apart3.row {lo hi g : Nat} (h1 : lo ≤ g) (h2 : g < hi) : Apart3 lo hi Nowhere (fun b => b = g) (New (g + 1) hi) :=
  ⟨fun b h => by
    rcases h with h | h | h
    · exact h.elim
    · have h : b = g := h
      omega
    · have := h.1
      exact ⟨by omega, h.2⟩, fun b h => h.elim, fun b h => h.elim, fun b h k => by
    have h : b = g := h
    have := k.1
    omega⟩
theorem Apart3.leaf {lo hi g : Nat} (h1 : lo ≤ g) : Apart3 lo hi Nowhere Nowhere (New g hi) :=
  ⟨fun b h => by
    rcases h with h | h | h
    · exact h.elim
    · exact h.elim
    · exact ⟨Nat.le_trans h1 h.1, h.2⟩, fun b h => h.elim, fun b h => h.elim, fun b h => h.elim⟩
theorem Apart3.widen {lo lo' hi hi' : Nat} {M H L : Nat → Prop} (h : Apart3 lo hi M H L) (h1 : lo' ≤ lo) (h2 : hi ≤ hi') : Apart3 lo' hi' M H L :=
  ⟨fun b hb => by
    have := h.1 b hb
    omega, h.2⟩
theorem Apart3.un {lo mid hi : Nat} {M H L M' H' L' : Nat → Prop} (h : Apart3 lo mid M H L) (k : Apart3 mid hi M' H' L') (h1 : lo ≤ mid) (h2 : mid ≤ hi) : Apart3 lo hi (Un M M') (Un H H') (Un L L') := by
  have a1 : ∀ b, M b → b < mid := fun b x => (h.1 b (.inl x)).2
  have a2 : ∀ b, H b → b < mid := fun b x => (h.1 b (.inr (.inl x))).2
  have a3 : ∀ b, L b → b < mid := fun b x => (h.1 b (.inr (.inr x))).2
  have c1 : ∀ b, M' b → mid ≤ b := fun b x => (k.1 b (.inl x)).1
  have c2 : ∀ b, H' b → mid ≤ b := fun b x => (k.1 b (.inr (.inl x))).1
  have c3 : ∀ b, L' b → mid ≤ b := fun b x => (k.1 b (.inr (.inr x))).1
  refine ⟨fun b x => ?_, fun b x y => ?_, fun b x y => ?_, fun b x y => ?_⟩
  · rcases x with (x | x) | (x | x) | (x | x)
    · have := h.1 b (.inl x); omega
    · have := k.1 b (.inl x); omega
    · have := h.1 b (.inr (.inl x)); omega
    · have := k.1 b (.inr (.inl x)); omega
    · have := h.1 b (.inr (.inr x)); omega
    · have := k.1 b (.inr (.inr x)); omega
  · rcases x with x | x <;> rcases y with y | y
    · exact h.2.1 b x y
    · have := a1 b x; have := c2 b y; omega
    · have := c1 b x; have := a2 b y; omega
    · exact k.2.1 b x y
  · rcases x with x | x <;> rcases y with y | y
    · exact h.2.2.1 b x y
    · have := a1 b x; have := c3 b y; omega
    · have := c1 b x; have := a3 b y; omega
    · exact k.2.2.1 b x y
  · rcases x with x | x <;> rcases y with y | y
    · exact h.2.2.2 b x y
    · have := a2 b x; have := c3 b y; omega
    · have := c2 b x; have := a3 b y; omega
    · exact k.2.2.2 b x y
theorem Apart3.addRow {lo g hi : Nat} {M H L : Nat → Prop} (h : Apart3 (g + 1) hi M H L) (h1 : lo ≤ g) (h2 : g < hi) : Apart3 lo hi (Un (fun b => b = g) M) H L := by
  have a : ∀ b, M b ∨ H b ∨ L b → g < b := fun b x => (h.1 b x).1
  refine ⟨fun b x => ?_, fun b x y => ?_, fun b x y => ?_, h.2.2.2⟩
  · rcases x with (x | x) | x
    · have x : b = g := x
      omega
    · have := h.1 b (.inl x); omega
    · have := h.1 b (.inr x); omega
  · rcases x with x | x
    · have x : b = g := x
      have := a b (.inr (.inl y))
      omega
    · exact h.2.1 b x y
  · rcases x with x | x
    · have x : b = g := x
      have := a b (.inr (.inr y))
      omega
    · exact h.2.2.1 b x y
end Go.Proofs.Ytjgdcjhmfbefdaa
