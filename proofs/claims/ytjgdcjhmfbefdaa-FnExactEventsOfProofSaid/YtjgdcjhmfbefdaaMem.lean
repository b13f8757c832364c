/- Words for memory: a slice of int64 that reads as a list; worlds in which only some blocks have turned. No condition. -/
import Derived.Test.YtjgdcjhmfbefdaaNums
import Derived.BigQuiet
import Derived.Deep.QuietTactic
import Derived.Deep.Draws
namespace Go.Proofs.Ytjgdcjhmfbefdaa
open Go.ChangeShapes Go.WideShapes Go.ChangeAt Go.RowKit

theorem addr_block (a : Addr) (n : Nat) : (a.add n).block = a.block := by unfold Addr.add; split <;> rfl
theorem addr_add (a : Addr) (i j : Nat) : (a.add i).add j = a.add (i + j) := by
  unfold Addr.add
  by_cases hi : i = 0 <;> by_cases hj : j = 0 <;> simp [hi, hj, Nat.add_assoc]
theorem addr_ne {a : Addr} {i j : Nat} (h : i ≠ j) : a.add i ≠ a.add j := by
  unfold Addr.add
  intro he
  by_cases hi : i = 0 <;> by_cases hj : j = 0 <;> simp [hi, hj] at he
  · omega
  · have := congrArg Addr.off he; simp at this; omega
  · have := congrArg Addr.off he; simp at this; omega
  · omega

/-- of what was there only blocks of S have turned -/
structure Chg (S : Nat → Prop) (w w' : World) : Prop where
  os : w'.os = w.os
  tape : w'.tape = w.tape
  output : w'.output = w.output
  size : w.heap.size ≤ w'.heap.size
  block : ∀ k, k < w.heap.size → ¬ S k → w'.heap[k]? = w.heap[k]?
def Nowhere : Nat → Prop := fun _ => False
def New (lo hi : Nat) : Nat → Prop := fun b => lo ≤ b ∧ b < hi
abbrev Up (w w' : World) : Prop := Chg Nowhere w w'
theorem Chg.refl (S : Nat → Prop) (w : World) : Chg S w w := ⟨rfl, rfl, rfl, Nat.le_refl _, fun _ _ _ => rfl⟩
theorem Chg.trans {S : Nat → Prop} {a b c : World} (h : Chg S a b) (k : Chg S b c) : Chg S a c :=
  ⟨k.os.trans h.os, k.tape.trans h.tape, k.output.trans h.output, Nat.le_trans h.size k.size, fun i hi hn => (k.block i (Nat.lt_of_lt_of_le hi h.size) hn).trans (h.block i hi hn)⟩
theorem Chg.mono {S T : Nat → Prop} {a b : World} (h : Chg S a b) (hs : ∀ k, k < a.heap.size → S k → T k) : Chg T a b :=
  ⟨h.os, h.tape, h.output, h.size, fun i hi hn => h.block i hi (fun hh => hn (hs i hi hh))⟩
theorem Chg.of_up {S : Nat → Prop} {a b : World} (h : Up a b) : Chg S a b := h.mono fun _ _ h => h.elim
theorem Chg.drew {S : Nat → Prop} {a w : World} (h : Chg S a w) : Chg S a w.drew := ⟨h.os, h.tape, h.output, h.size, h.block⟩
theorem Chg.drewN {S : Nat → Prop} {a w : World} (h : Chg S a w) (n : Nat) : Chg S a (w.drewN n) := ⟨h.os, h.tape, h.output, h.size, h.block⟩
theorem Chg.alloc {S : Nat → Prop} {a w : World} (h : Chg S a w) (o : Obj) : Chg S a (w.alloc o) :=
  ⟨h.os, h.tape, h.output, Nat.le_trans h.size (by simp), fun i hi hn => (Below.heap_alloc w o i (Nat.lt_of_lt_of_le hi h.size)).trans (h.block i hi hn)⟩
theorem Chg.setCell {S : Nat → Prop} {a w : World} (h : Chg S a w) {p : Addr} (hp : S p.block ∨ a.heap.size ≤ p.block) (u : Value) : Chg S a (w.setCell p u) :=
  ⟨h.os, h.tape, h.output, by simpa [World.setCell] using h.size, fun i hi hn => (Below.heap_setCell w p u i (by
    rintro rfl
    rcases hp with hp | hp
    · exact hn hp
    · omega)).trans (h.block i hi hn)⟩
theorem Chg.grown {S : Nat → Prop} {a w w' : World} {row : Option Nat} (h : Chg S a w) (hg : w.grownBy w' row) (hr : ∀ k, row = some k → S k ∨ a.heap.size ≤ k) : Chg S a w' :=
  ⟨hg.os.trans h.os, hg.tape.trans h.tape, hg.output.trans h.output, Nat.le_trans h.size hg.size, fun i hi hn =>
    (hg.block i (Nat.lt_of_lt_of_le hi h.size) (fun e => by
      rcases hr i e.symm with h1 | h1
      · exact hn h1
      · omega)).trans (h.block i hi hn)⟩
theorem Chg.of_below {w w' : World} (h : Below w.heap.size w w') : Up w w' := ⟨h.os, h.tape, h.output, h.size, fun i hi _ => h.block i hi⟩
theorem Up.below {w w' : World} (h : Up w w') : Below w.heap.size w w' := ⟨h.os, h.tape, h.output, h.size, fun i hi => h.block i hi id⟩
/-- what is behind the first blocks may have turned -/
theorem Chg.below {S : Nat → Prop} {w w' : World} {B : Nat} (h : Chg S w w') (hB : B ≤ w.heap.size) (hS : ∀ k, k < B → ¬ S k) : Below B w w' :=
  ⟨h.os, h.tape, h.output, h.size, fun i hi => h.block i (by omega) (hS i hi)⟩
/-- a world that grew, and of which then only new blocks have turned, grew -/
theorem Chg.new {S : Nat → Prop} {a b c : World} (h : Up a b) (k : Chg S b c) (hS : ∀ i, i < a.heap.size → ¬ S i) : Up a c :=
  ⟨k.os.trans h.os, k.tape.trans h.tape, k.output.trans h.output, Nat.le_trans h.size k.size, fun i hi hn => (k.block i (Nat.lt_of_lt_of_le hi h.size) (hS i hi)).trans (h.block i hi hn)⟩
theorem Chg.cell {S : Nat → Prop} {w w' : World} (h : Chg S w w') {p : Addr} {u : Value} (hc : w.cell? p = some u) (hp : ¬ S p.block) : w'.cell? p = some u :=
  (World.cell?_of_block (h.block p.block (World.block_lt_of_cell? w p hc) hp)).trans hc
theorem Chg.frozen {S : Nat → Prop} {w w' : World} (h : Chg S w w') {p : Addr} {u : Value} (hc : w.cell? p = some u) (hp : ¬ S p.block) : w'.frozen? p = w.frozen? p :=
  World.frozen?_of_block (h.block p.block (World.block_lt_of_cell? w p hc) hp)

theorem add_zero (g t : Nat) : (⟨g, 0, none⟩ : Addr).add t = ⟨g, t, none⟩ := by
  unfold Addr.add
  by_cases h : t = 0 <;> simp [h]
/-- A slice of int64 that reads as the list xs; its block is one of S; its cells may be written. -/
def Ints (w : World) (S : Nat → Prop) (v : Value) (xs : List Int) : Prop :=
  ∃ A c, v = .slice A xs.length c ∧ xs.length ≤ c ∧ c ≤ 9223372036854775807 ∧ (∀ x ∈ xs, I64 x) ∧
    (0 < xs.length → ∃ b o, A = some ⟨b, o, none⟩ ∧ S b ∧ b < w.heap.size ∧ ∀ j (h : j < xs.length), w.cell? ⟨b, o + j, none⟩ = some (.int .i64 xs[j]) ∧ w.frozen? ⟨b, o + j, none⟩ = false) ∧ (A = none → c = 0)
theorem Ints.keep {S T : Nat → Prop} {w w' : World} {v : Value} {xs : List Int} (h : Ints w S v xs) (k : Chg T w w') (hd : ∀ b, b < w.heap.size → S b → ¬ T b) : Ints w' S v xs := by
  obtain ⟨A, c, hv, h1, h2, h3, h4, h5⟩ := h
  refine ⟨A, c, hv, h1, h2, h3, fun hp => ?_, h5⟩
  obtain ⟨b, o, ha, hs, hb, hc⟩ := h4 hp
  refine ⟨b, o, ha, hs, Nat.lt_of_lt_of_le hb k.size, fun j hj => ?_⟩
  have hn : ¬ T b := hd _ hb hs
  exact ⟨k.cell (hc j hj).1 hn, (k.frozen (hc j hj).1 hn).trans (hc j hj).2⟩
theorem Ints.up {S : Nat → Prop} {w w' : World} {v : Value} {xs : List Int} (h : Ints w S v xs) (k : Up w w') : Ints w' S v xs := h.keep k fun _ _ _ h => h
theorem Ints.mono {S T : Nat → Prop} {w : World} {v : Value} {xs : List Int} (h : Ints w S v xs) (hs : ∀ b, b < w.heap.size → S b → T b) : Ints w T v xs := by
  obtain ⟨A, c, hv, h1, h2, h3, h4, h5⟩ := h
  refine ⟨A, c, hv, h1, h2, h3, fun hp => ?_, h5⟩
  obtain ⟨b, o, ha, hb, hl, hc⟩ := h4 hp
  exact ⟨b, o, ha, hs _ hl hb, hl, hc⟩
theorem Ints.nil (w : World) (S : Nat → Prop) (c : Nat) (A : Option Addr) (hc : c ≤ 9223372036854775807) (hA : A = none → c = 0 := by simp) : Ints w S (.slice A 0 c) [] :=
  ⟨A, c, rfl, by simp, hc, by simp, fun h => by simp at h, hA⟩
/-- a row of one's own reads as a list -/
theorem Ints.of_own {w : World} {base : Nat} {e : TypeId} {v : Value} {n : Nat} {xs : List Int} (h : w.ownsRow base e 1 v n (xs.map (Value.int .i64))) (hx : ∀ x ∈ xs, I64 x) : Ints w (New base w.heap.size) v xs := by
  obtain ⟨hl, hr⟩ := h
  rw [List.length_map, Nat.mul_one] at hl
  subst hl
  rcases hr with ⟨rfl, h0⟩ | ⟨g, cap, cur, rfl, hg, hh, hnc, hcm, hsz, htake⟩
  · have hn : xs = [] := List.eq_nil_of_length_eq_zero h0
    subst hn
    exact Ints.nil w _ 0 none (by omega)
  · have hlt : g < w.heap.size := (Array.getElem?_eq_some_iff.1 hh).1
    refine ⟨_, _, rfl, hnc, hcm, hx, fun hp => ⟨g, 0, rfl, ⟨hg, hlt⟩, hlt, fun j hj => ?_⟩, by simp⟩
    have hc := World.ownsRow.cells (w := w) (base := base) (e := e) (size := 1) (v := .slice (some ⟨g, 0, none⟩) xs.length cap) (n := xs.length) (xs := xs.map (Value.int .i64))
      ⟨by simp, .inr ⟨g, cap, cur, rfl, hg, hh, hnc, hcm, hsz, htake⟩⟩ (g := g) rfl j (.int .i64 xs[j]) (by simp [hj])
    rw [add_zero] at hc
    rw [Nat.zero_add]
    exact ⟨hc, by simp [World.frozen?, hh]⟩
/-- a block of the call's own, cell by cell, reads as a list -/
theorem Ints.of_cells {w : World} {S : Nat → Prop} {g c : Nat} {xs : List Int} (hS : S g) (hg : g < w.heap.size) (hc : xs.length ≤ c) (hm : c ≤ 9223372036854775807) (hx : ∀ x ∈ xs, I64 x)
    (h : ∀ t (ht : t < xs.length), w.cell? ⟨g, t, none⟩ = some (.int .i64 xs[t]) ∧ w.frozen? ⟨g, t, none⟩ = false) : Ints w S (.slice (some ⟨g, 0, none⟩) xs.length c) xs :=
  ⟨_, c, rfl, hc, hm, hx, fun _ => ⟨g, 0, rfl, hS, hg, fun t ht => by rw [Nat.zero_add]; exact h t ht⟩, by simp⟩
theorem madeInts_get (n t : Nat) (h : t < n) : (madeCells #[.int .i64 0] n)[t]? = some (.int .i64 0) := by
  simp [madeCells, h, Nat.mod_one]
theorem cell_new (w : World) (cs : Array Value) (e : TypeId) (t : Nat) : (w.alloc (.cells cs e)).cell? ⟨w.heap.size, t, none⟩ = cs[t]? := cell_of_row _ _ _ _ _ _ (heap_alloc_new _ _)
theorem frozen_new (w : World) (cs : Array Value) (e : TypeId) (t : Nat) : (w.alloc (.cells cs e)).frozen? ⟨w.heap.size, t, none⟩ = false := by
  have h := heap_alloc_new w (.cells cs e)
  simp only [World.frozen?, h]
  simp
/-- a call inside a region that only reads: behind draws -/
theorem quiet_left {P : Program} {f : FuncId} {args : Array Value} {w : World} {n : Nat} {v : Value}
    (h : Calls P f args (w.drewN n) fun e w' => e = .returned v ∧ w.drewN n = w') : Calls P f args (w.drewN n) fun e w'' => e = .returned v ∧ ∃ m, w'' = w.drewN m :=
  h.mono fun _ _ ⟨he, hw⟩ => ⟨he, n, hw.symm⟩
/-- only answers were drawn -/
def Drawn (w w' : World) : Prop := ∃ n, w' = w.drewN n
theorem Drawn.refl (w : World) : Drawn w w := ⟨0, rfl⟩
theorem Drawn.drewN {w w' : World} (h : Drawn w w') (n : Nat) : Drawn w (w'.drewN n) := by
  obtain ⟨m, rfl⟩ := h
  exact ⟨m + n, by rw [World.drewN_drewN]⟩
theorem Drawn.trans {a b c : World} (h : Drawn a b) (k : Drawn b c) : Drawn a c := by
  obtain ⟨n, rfl⟩ := k
  exact h.drewN n
theorem Drawn.up {w w' : World} (h : Drawn w w') : Up w w' := by
  obtain ⟨n, rfl⟩ := h
  exact (Chg.refl _ _).drewN n
theorem Drawn.heap {w w' : World} (h : Drawn w w') : w'.heap = w.heap := by
  obtain ⟨n, rfl⟩ := h
  rfl
theorem Drawn.cell {w w' : World} (h : Drawn w w') {p : Addr} {u : Value} (hc : w.cell? p = some u) : w'.cell? p = some u := by
  obtain ⟨n, rfl⟩ := h
  exact hc
theorem Drawn.frozen {w w' : World} (h : Drawn w w') {p : Addr} {u : Bool} (hc : w.frozen? p = u) : w'.frozen? p = u := by
  obtain ⟨n, rfl⟩ := h
  exact hc
/-- a call inside a region that only reads -/
theorem quiet_drawn {P : Program} {f : FuncId} {args : Array Value} {w : World} {n : Nat} {v : Value}
    (h : Calls P f args (w.drewN n) fun e w' => e = .returned v ∧ Drawn (w.drewN n) w') : Calls P f args (w.drewN n) fun e w'' => e = .returned v ∧ ∃ m, w'' = w.drewN m :=
  h.mono fun _ _ ⟨he, m, hw⟩ => ⟨he, n + m, by rw [hw, World.drewN_drewN]⟩
end Go.Proofs.Ytjgdcjhmfbefdaa
