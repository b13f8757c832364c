/- Words for memory: a slice of int64 that reads as a list; worlds in which only some blocks have turned. No condition. Contracts of the laws' own helpers on slices of int64: equal, marked, held, copied. No condition but room for the numbers. Rows under construction: slices of int64 to which the call appends. No condition. Words for memory: slices whose elements take several cells; operations and moves as data. No condition. Rows under construction, with the blocks in which they come to lie; slices of slices of numbers. No condition but room. Regions that draw their order, whose operations only read and whose callees at most make new memory: one walk serves every order. No condition. -/
import Derived.Test.YtplabnjdhkmmkaaPF1
import Derived.BigQuiet
import Derived.Deep.QuietTactic
import Derived.Deep.Draws
section
set_option linter.unusedSimpArgs false
set_option linter.unusedVariables false
namespace Go.Proofs.Ytplabnjdhkmmkaa
open Go.ChangeShapes Go.WideShapes Go.ChangeAt Go.RowKit
/-- of what was there only blocks of S have turned -/
structure Chg (S : Nat → Prop) (w w' : World) : Prop where
  os : w'.os = w.os
  tape : w'.tape = w.tape
  output : w'.output = w.output
  size : w.heap.size ≤ w'.heap.size
  block : ∀ k, k < w.heap.size → ¬ S k → w'.heap[k]? = w.heap[k]?
def Nowhere : Nat → Prop := fun _ => False
def New (lo hi : Nat) : Nat → Prop := fun b => lo ≤ b ∧ b < hi
abbrev Up (w w' : World) : Prop := Chg Nowhere w w'
theorem Chg.refl (S : Nat → Prop) (w : World) : Chg S w w := ⟨rfl, rfl, rfl, Nat.le_refl _, fun _ _ _ => rfl⟩
theorem Chg.trans {S : Nat → Prop} {a b c : World} (h : Chg S a b) (k : Chg S b c) : Chg S a c :=
  ⟨k.os.trans h.os, k.tape.trans h.tape, k.output.trans h.output, Nat.le_trans h.size k.size, fun i hi hn => (k.block i (Nat.lt_of_lt_of_le hi h.size) hn).trans (h.block i hi hn)⟩
theorem Chg.mono {S T : Nat → Prop} {a b : World} (h : Chg S a b) (hs : ∀ k, k < a.heap.size → S k → T k) : Chg T a b :=
  ⟨h.os, h.tape, h.output, h.size, fun i hi hn => h.block i hi (fun hh => hn (hs i hi hh))⟩
theorem Chg.of_up {S : Nat → Prop} {a b : World} (h : Up a b) : Chg S a b := h.mono fun _ _ h => h.elim
theorem Chg.drew {S : Nat → Prop} {a w : World} (h : Chg S a w) : Chg S a w.drew := ⟨h.os, h.tape, h.output, h.size, h.block⟩
theorem Chg.drewN {S : Nat → Prop} {a w : World} (h : Chg S a w) (n : Nat) : Chg S a (w.drewN n) := ⟨h.os, h.tape, h.output, h.size, h.block⟩
theorem Chg.alloc {S : Nat → Prop} {a w : World} (h : Chg S a w) (o : Obj) : Chg S a (w.alloc o) :=
  ⟨h.os, h.tape, h.output, Nat.le_trans h.size (by simp), fun i hi hn => (Below.heap_alloc w o i (Nat.lt_of_lt_of_le hi h.size)).trans (h.block i hi hn)⟩
theorem Chg.setCell {S : Nat → Prop} {a w : World} (h : Chg S a w) {p : Addr} (hp : S p.block ∨ a.heap.size ≤ p.block) (u : Value) : Chg S a (w.setCell p u) :=
  ⟨h.os, h.tape, h.output, by simpa [World.setCell] using h.size, fun i hi hn => (Below.heap_setCell w p u i (by
    rintro rfl
    rcases hp with hp | hp
    · exact hn hp
    · omega)).trans (h.block i hi hn)⟩
theorem Chg.grown {S : Nat → Prop} {a w w' : World} {row : Option Nat} (h : Chg S a w) (hg : w.grownBy w' row) (hr : ∀ k, row = some k → S k ∨ a.heap.size ≤ k) : Chg S a w' :=
  ⟨hg.os.trans h.os, hg.tape.trans h.tape, hg.output.trans h.output, Nat.le_trans h.size hg.size, fun i hi hn =>
    (hg.block i (Nat.lt_of_lt_of_le hi h.size) (fun e => by
      rcases hr i e.symm with h1 | h1
      · exact hn h1
      · omega)).trans (h.block i hi hn)⟩
theorem Up.below {w w' : World} (h : Up w w') : Below w.heap.size w w' := ⟨h.os, h.tape, h.output, h.size, fun i hi => h.block i hi id⟩
/-- what is behind the first blocks may have turned -/
theorem Chg.below {S : Nat → Prop} {w w' : World} {B : Nat} (h : Chg S w w') (hB : B ≤ w.heap.size) (hS : ∀ k, k < B → ¬ S k) : Below B w w' :=
  ⟨h.os, h.tape, h.output, h.size, fun i hi => h.block i (by omega) (hS i hi)⟩
/-- a world that grew, and of which then only new blocks have turned, grew -/
theorem Chg.new {S : Nat → Prop} {a b c : World} (h : Up a b) (k : Chg S b c) (hS : ∀ i, i < a.heap.size → ¬ S i) : Up a c :=
  ⟨k.os.trans h.os, k.tape.trans h.tape, k.output.trans h.output, Nat.le_trans h.size k.size, fun i hi hn => (k.block i (Nat.lt_of_lt_of_le hi h.size) (hS i hi)).trans (h.block i hi hn)⟩
theorem Chg.cell {S : Nat → Prop} {w w' : World} (h : Chg S w w') {p : Addr} {u : Value} (hc : w.cell? p = some u) (hp : ¬ S p.block) : w'.cell? p = some u :=
  (World.cell?_of_block (h.block p.block (World.block_lt_of_cell? w p hc) hp)).trans hc
theorem Chg.frozen {S : Nat → Prop} {w w' : World} (h : Chg S w w') {p : Addr} {u : Value} (hc : w.cell? p = some u) (hp : ¬ S p.block) : w'.frozen? p = w.frozen? p :=
  World.frozen?_of_block (h.block p.block (World.block_lt_of_cell? w p hc) hp)
theorem cc3 {a b : World} (g : Up a b) {p : Addr} {p' : Value} {q : Addr} {q' : Value} {r : Addr} {r' : Value} (hp : a.cell? p = some p') (hq : a.cell? q = some q') (hr : a.cell? r = some r') : b.cell? p = some p' ∧ b.cell? q = some q' ∧ b.cell? r = some r' := ⟨g.cell hp id, g.cell hq id, g.cell hr id⟩
theorem cc4 {a b : World} (g : Up a b) {p : Addr} {p' : Value} {q : Addr} {q' : Value} {r : Addr} {r' : Value} {s : Addr} {s' : Value} (hp : a.cell? p = some p') (hq : a.cell? q = some q') (hr : a.cell? r = some r') (hs : a.cell? s = some s') : b.cell? p = some p' ∧ b.cell? q = some q' ∧ b.cell? r = some r' ∧ b.cell? s = some s' := ⟨g.cell hp id, g.cell hq id, g.cell hr id, g.cell hs id⟩
theorem cc5 {a b : World} (g : Up a b) {p : Addr} {p' : Value} {q : Addr} {q' : Value} {r : Addr} {r' : Value} {s : Addr} {s' : Value} {t : Addr} {t' : Value} (hp : a.cell? p = some p') (hq : a.cell? q = some q') (hr : a.cell? r = some r') (hs : a.cell? s = some s') (ht : a.cell? t = some t') : b.cell? p = some p' ∧ b.cell? q = some q' ∧ b.cell? r = some r' ∧ b.cell? s = some s' ∧ b.cell? t = some t' := ⟨g.cell hp id, g.cell hq id, g.cell hr id, g.cell hs id, g.cell ht id⟩
theorem cc6 {a b : World} (g : Up a b) {p : Addr} {p' : Value} {q : Addr} {q' : Value} {r : Addr} {r' : Value} {s : Addr} {s' : Value} {t : Addr} {t' : Value} {u : Addr} {u' : Value} (hp : a.cell? p = some p') (hq : a.cell? q = some q') (hr : a.cell? r = some r') (hs : a.cell? s = some s') (ht : a.cell? t = some t') (hu : a.cell? u = some u') : b.cell? p = some p' ∧ b.cell? q = some q' ∧ b.cell? r = some r' ∧ b.cell? s = some s' ∧ b.cell? t = some t' ∧ b.cell? u = some u' := ⟨g.cell hp id, g.cell hq id, g.cell hr id, g.cell hs id, g.cell ht id, g.cell hu id⟩
theorem cc7 {a b : World} (g : Up a b) {p : Addr} {p' : Value} {q : Addr} {q' : Value} {r : Addr} {r' : Value} {s : Addr} {s' : Value} {t : Addr} {t' : Value} {u : Addr} {u' : Value} {v : Addr} {v' : Value} (hp : a.cell? p = some p') (hq : a.cell? q = some q') (hr : a.cell? r = some r') (hs : a.cell? s = some s') (ht : a.cell? t = some t') (hu : a.cell? u = some u') (hv : a.cell? v = some v') : b.cell? p = some p' ∧ b.cell? q = some q' ∧ b.cell? r = some r' ∧ b.cell? s = some s' ∧ b.cell? t = some t' ∧ b.cell? u = some u' ∧ b.cell? v = some v' := ⟨g.cell hp id, g.cell hq id, g.cell hr id, g.cell hs id, g.cell ht id, g.cell hu id, g.cell hv id⟩
theorem cc8 {a b : World} (g : Up a b) {p : Addr} {p' : Value} {q : Addr} {q' : Value} {r : Addr} {r' : Value} {s : Addr} {s' : Value} {t : Addr} {t' : Value} {u : Addr} {u' : Value} {v : Addr} {v' : Value} {x : Addr} {x' : Value} (hp : a.cell? p = some p') (hq : a.cell? q = some q') (hr : a.cell? r = some r') (hs : a.cell? s = some s') (ht : a.cell? t = some t') (hu : a.cell? u = some u') (hv : a.cell? v = some v') (hx : a.cell? x = some x') : b.cell? p = some p' ∧ b.cell? q = some q' ∧ b.cell? r = some r' ∧ b.cell? s = some s' ∧ b.cell? t = some t' ∧ b.cell? u = some u' ∧ b.cell? v = some v' ∧ b.cell? x = some x' := ⟨g.cell hp id, g.cell hq id, g.cell hr id, g.cell hs id, g.cell ht id, g.cell hu id, g.cell hv id, g.cell hx id⟩
theorem add_zero (g t : Nat) : (⟨g, 0, none⟩ : Addr).add t = ⟨g, t, none⟩ := by
  unfold Addr.add
  by_cases h : t = 0 <;> simp [h]
/-- A slice of int64 that reads as the list xs; its block is one of S; its cells may be written. -/
def Ints (w : World) (S : Nat → Prop) (v : Value) (xs : List Int) : Prop :=
  ∃ A c, v = .slice A xs.length c ∧ xs.length ≤ c ∧ c ≤ 9223372036854775807 ∧ (∀ x ∈ xs, I64 x) ∧
    (0 < xs.length → ∃ b o, A = some ⟨b, o, none⟩ ∧ S b ∧ b < w.heap.size ∧ ∀ j (h : j < xs.length), w.cell? ⟨b, o + j, none⟩ = some (.int .i64 xs[j]) ∧ w.frozen? ⟨b, o + j, none⟩ = false) ∧ (A = none → c = 0)
theorem Ints.keep {S T : Nat → Prop} {w w' : World} {v : Value} {xs : List Int} (h : Ints w S v xs) (k : Chg T w w') (hd : ∀ b, b < w.heap.size → S b → ¬ T b) : Ints w' S v xs := by
  obtain ⟨A, c, hv, h1, h2, h3, h4, h5⟩ := h
  refine ⟨A, c, hv, h1, h2, h3, fun hp => ?_, h5⟩
  obtain ⟨b, o, ha, hs, hb, hc⟩ := h4 hp
  refine ⟨b, o, ha, hs, Nat.lt_of_lt_of_le hb k.size, fun j hj => ?_⟩
  have hn : ¬ T b := hd _ hb hs
  exact ⟨k.cell (hc j hj).1 hn, (k.frozen (hc j hj).1 hn).trans (hc j hj).2⟩
theorem Ints.up {S : Nat → Prop} {w w' : World} {v : Value} {xs : List Int} (h : Ints w S v xs) (k : Up w w') : Ints w' S v xs := h.keep k fun _ _ _ h => h
theorem Ints.mono {S T : Nat → Prop} {w : World} {v : Value} {xs : List Int} (h : Ints w S v xs) (hs : ∀ b, b < w.heap.size → S b → T b) : Ints w T v xs := by
  obtain ⟨A, c, hv, h1, h2, h3, h4, h5⟩ := h
  refine ⟨A, c, hv, h1, h2, h3, fun hp => ?_, h5⟩
  obtain ⟨b, o, ha, hb, hl, hc⟩ := h4 hp
  exact ⟨b, o, ha, hs _ hl hb, hl, hc⟩
theorem Ints.nil (w : World) (S : Nat → Prop) (c : Nat) (A : Option Addr) (hc : c ≤ 9223372036854775807) (hA : A = none → c = 0 := by simp) : Ints w S (.slice A 0 c) [] :=
  ⟨A, c, rfl, by simp, hc, by simp, fun h => by simp at h, hA⟩
/-- a row of one's own reads as a list -/
theorem Ints.of_own {w : World} {base : Nat} {e : TypeId} {v : Value} {n : Nat} {xs : List Int} (h : w.ownsRow base e 1 v n (xs.map (Value.int .i64))) (hx : ∀ x ∈ xs, I64 x) : Ints w (New base w.heap.size) v xs := by
  obtain ⟨hl, hr⟩ := h
  rw [List.length_map, Nat.mul_one] at hl
  subst hl
  rcases hr with ⟨rfl, h0⟩ | ⟨g, cap, cur, rfl, hg, hh, hnc, hcm, hsz, htake⟩
  · have hn : xs = [] := List.eq_nil_of_length_eq_zero h0
    subst hn
    exact Ints.nil w _ 0 none (by omega)
  · have hlt : g < w.heap.size := (Array.getElem?_eq_some_iff.1 hh).1
    refine ⟨_, _, rfl, hnc, hcm, hx, fun hp => ⟨g, 0, rfl, ⟨hg, hlt⟩, hlt, fun j hj => ?_⟩, by simp⟩
    have hc := World.ownsRow.cells (w := w) (base := base) (e := e) (size := 1) (v := .slice (some ⟨g, 0, none⟩) xs.length cap) (n := xs.length) (xs := xs.map (Value.int .i64))
      ⟨by simp, .inr ⟨g, cap, cur, rfl, hg, hh, hnc, hcm, hsz, htake⟩⟩ (g := g) rfl j (.int .i64 xs[j]) (by simp [hj])
    rw [add_zero] at hc
    rw [Nat.zero_add]
    exact ⟨hc, by simp [World.frozen?, hh]⟩
/-- a block of the call's own, cell by cell, reads as a list -/
theorem Ints.of_cells {w : World} {S : Nat → Prop} {g c : Nat} {xs : List Int} (hS : S g) (hg : g < w.heap.size) (hc : xs.length ≤ c) (hm : c ≤ 9223372036854775807) (hx : ∀ x ∈ xs, I64 x)
    (h : ∀ t (ht : t < xs.length), w.cell? ⟨g, t, none⟩ = some (.int .i64 xs[t]) ∧ w.frozen? ⟨g, t, none⟩ = false) : Ints w S (.slice (some ⟨g, 0, none⟩) xs.length c) xs :=
  ⟨_, c, rfl, hc, hm, hx, fun _ => ⟨g, 0, rfl, hS, hg, fun t ht => by rw [Nat.zero_add]; exact h t ht⟩, by simp⟩
theorem cell_new (w : World) (cs : Array Value) (e : TypeId) (t : Nat) : (w.alloc (.cells cs e)).cell? ⟨w.heap.size, t, none⟩ = cs[t]? := cell_of_row _ _ _ _ _ _ (heap_alloc_new _ _)
theorem frozen_new (w : World) (cs : Array Value) (e : TypeId) (t : Nat) : (w.alloc (.cells cs e)).frozen? ⟨w.heap.size, t, none⟩ = false := by
  have h := heap_alloc_new w (.cells cs e)
  simp only [World.frozen?, h]
  simp
/-- a call inside a region that only reads: behind draws -/
theorem quiet_left {P : Program} {f : FuncId} {args : Array Value} {w : World} {n : Nat} {v : Value}
    (h : Calls P f args (w.drewN n) fun e w' => e = .returned v ∧ w.drewN n = w') : Calls P f args (w.drewN n) fun e w'' => e = .returned v ∧ ∃ m, w'' = w.drewN m :=
  h.mono fun _ _ ⟨he, hw⟩ => ⟨he, n, hw.symm⟩
/-- only answers were drawn -/
def Drawn (w w' : World) : Prop := ∃ n, w' = w.drewN n
theorem Drawn.refl (w : World) : Drawn w w := ⟨0, rfl⟩
theorem Drawn.drewN {w w' : World} (h : Drawn w w') (n : Nat) : Drawn w (w'.drewN n) := by
  obtain ⟨m, rfl⟩ := h
  exact ⟨m + n, by rw [World.drewN_drewN]⟩
theorem Drawn.trans {a b c : World} (h : Drawn a b) (k : Drawn b c) : Drawn a c := by
  obtain ⟨n, rfl⟩ := k
  exact h.drewN n
theorem Drawn.up {w w' : World} (h : Drawn w w') : Up w w' := by
  obtain ⟨n, rfl⟩ := h
  exact (Chg.refl _ _).drewN n
theorem Drawn.heap {w w' : World} (h : Drawn w w') : w'.heap = w.heap := by
  obtain ⟨n, rfl⟩ := h
  rfl
theorem Drawn.cell {w w' : World} (h : Drawn w w') {p : Addr} {u : Value} (hc : w.cell? p = some u) : w'.cell? p = some u := by
  obtain ⟨n, rfl⟩ := h
  exact hc
theorem Drawn.frozen {w w' : World} (h : Drawn w w') {p : Addr} {u : Bool} (hc : w.frozen? p = u) : w'.frozen? p = u := by
  obtain ⟨n, rfl⟩ := h
  exact hc
end Go.Proofs.Ytplabnjdhkmmkaa
end
section
set_option linter.unusedSimpArgs false
set_option linter.unusedVariables false
namespace Go.Proofs.Ytplabnjdhkmmkaa
open Go.ChangeShapes Go.WideShapes Go.ChangeAt Go.RowKit
def marks (k : Int) (n : Nat) : List Int := (List.range n).map fun i : Nat => (k + i : Int)
theorem marks_length (k : Int) (n : Nat) : (marks k n).length = n := by simp [marks]
/-- a slice of int64 that bears the marks from k on -/
def MInts (w : World) (S : Nat → Prop) (v : Value) (xs : List Int) (k : Int) : Prop := Ints w S v (marks k xs.length)
theorem MInts.keep {S T : Nat → Prop} {w w' : World} {v : Value} {xs : List Int} {k : Int} (h : MInts w S v xs k) (g : Chg T w w') (hd : ∀ b, b < w.heap.size → S b → ¬ T b) : MInts w' S v xs k := Ints.keep h g hd
theorem MInts.up {S : Nat → Prop} {w w' : World} {v : Value} {xs : List Int} {k : Int} (h : MInts w S v xs k) (g : Up w w') : MInts w' S v xs k := Ints.up h g
theorem Ints.shape {w : World} {S : Nat → Prop} {v : Value} {xs : List Int} (h : Ints w S v xs) : ∃ A c, v = .slice A xs.length c ∧ xs.length ≤ c ∧ c ≤ 9223372036854775807 ∧ (A = none → c = 0) :=
  let ⟨A, c, h1, h2, h3, _, _, h4⟩ := h; ⟨A, c, h1, h2, h3, h4⟩
theorem info2 : (Try.prog.info? 2).map (fun i => (i.zero, i.size, i.bytes)) = some (some (.int .i64 0), 1, 8) := by kernel_rfl
end Go.Proofs.Ytplabnjdhkmmkaa
end
section
set_option linter.unusedSimpArgs false
set_option linter.unusedVariables false
namespace Go.Proofs.Ytplabnjdhkmmkaa
open Go.ChangeShapes Go.WideShapes Go.ChangeAt Go.RowKit
/-- a slice of int64 of the call's own, from block base on -/
def OwnI (w : World) (base : Nat) (v : Value) (xs : List Int) : Prop :=
  w.ownsRow base 2 1 v xs.length (xs.map (Value.int .i64)) ∧ ∀ x ∈ xs, I64 x
theorem OwnI.nil (w : World) (base : Nat) : OwnI w base (.slice none 0 0) [] := ⟨World.ownsRow_nil _ _ _ _, by simp⟩
theorem OwnI.made (w : World) (base : Nat) (hb : base ≤ w.heap.size) : OwnI (w.alloc (.cells #[] 2)) base (.slice (some ⟨w.heap.size, 0, none⟩) 0 0) [] :=
  ⟨World.ownsRow_made w _ 0 hb (by unfold Go.maxLen; omega) (by simp), by simp⟩
theorem OwnI.alloc {w : World} {base : Nat} {v : Value} {xs : List Int} (h : OwnI w base v xs) (o : Obj) : OwnI (w.alloc o) base v xs := ⟨h.1.alloc o, h.2⟩
theorem OwnI.kept {w w' : World} {base : Nat} {v : Value} {xs : List Int} {S : Nat → Prop} (h : OwnI w base v xs) (k : Chg S w w') (hS : ∀ g, v.ownBlock = some g → ¬ S g) : OwnI w' base v xs := by
  refine ⟨⟨h.1.1, ?_⟩, h.2⟩
  rcases h.1.2 with h2 | ⟨g, cap, cur, rfl, hg, hh, r⟩
  · exact Or.inl h2
  · exact Or.inr ⟨g, cap, cur, rfl, hg, (k.block g (Array.getElem?_eq_some_iff.1 hh).1 (hS g rfl)).trans hh, r⟩
theorem OwnI.up {w w' : World} {base : Nat} {v : Value} {xs : List Int} (h : OwnI w base v xs) (k : Up w w') : OwnI w' base v xs := h.kept k fun _ _ h => h
theorem OwnI.ints {w : World} {base : Nat} {v : Value} {xs : List Int} (h : OwnI w base v xs) : Ints w (New base w.heap.size) v xs := Ints.of_own h.1 h.2
/-- 'out = append(out, x)' -/
theorem wp_append_int {w : World} {ops : Array Oper} {rest : List Oper} {o : Oper} {a : Act} {Q : Exit → Act → World → Prop} (hgd : o.guard = none) (s x : Operand)
    (ho : o.op = .call { callee := .builtin .append, args := #[s, x], argTypes := #[23, 23] })
    (base : Nat) (v : Value) (xs : List Int) (hs : a.eval s = v) (hown : OwnI w base v xs)
    (g : Nat) (n : Int) (hx : a.eval x = .slice (some ⟨g, 0, none⟩) 1 1) (hc : w.cell? ⟨g, 0, none⟩ = some (.int .i64 n)) (hn : I64 n) (hlen : xs.length ≤ 1099511627776) (hbase : base ≤ w.heap.size)
    (h : ∀ v' w', OwnI w' base v' (xs ++ [n]) → w.grownBy w' v.ownBlock → Chg (fun k => base ≤ k) w w' → wpList Try.prog ops Q rest (a.put o.dst v') w') : wpList Try.prog ops Q (o :: rest) a w := by
  obtain ⟨i0, hi, hz0, hz1, hz2⟩ := info_parts info2
  refine wpList_append_own (P := Try.prog) w hgd s x 23 ho base 2 i0 (.int .i64 0) 1 8 Try.underlying23 hi hz0 hz1 hz2 rfl (by decide) v xs.length _ hs hown.1 ⟨g, 0, none⟩ 1 1 [.int .i64 n] hx rfl ?_ ?_ ?_ ?_ hbase ?_
  · intro j u hu
    cases j with
    | zero => simp only [List.getElem?_cons_zero, Option.some.injEq] at hu; subst hu; rw [add_zero]; exact hc
    | succ j => simp at hu
  · intro u hu; simp at hu; subst hu; rfl
  · unfold Go.maxLen; omega
  · omega
  · intro v' w' h2 h3 _
    refine h v' w' ⟨by simpa using h2, fun y hy => ?_⟩ h3 ((Chg.refl _ _).grown h3 fun k hk => .inl (hown.1.lt k hk).1)
    rcases List.mem_append.1 hy with h4 | h4
    · exact hown.2 y h4
    · simp at h4; subst h4; exact hn
end Go.Proofs.Ytplabnjdhkmmkaa
end
section
set_option linter.unusedSimpArgs false
set_option linter.unusedVariables false
namespace Go.Proofs.Ytplabnjdhkmmkaa
open Go.ChangeShapes Go.WideShapes Go.ChangeAt Go.RowKit
/-- A slice of n elements of k cells each, which holds the cells cs; its block is one of S; its cells may be written. -/
def Raw (w : World) (S : Nat → Prop) (k : Nat) (v : Value) (n : Nat) (cs : List Value) : Prop :=
  cs.length = n * k ∧ ∃ A c, v = .slice A n c ∧ n ≤ c ∧ c ≤ 9223372036854775807 ∧ (0 < n → ∃ b o, A = some ⟨b, o, none⟩ ∧ S b ∧ b < w.heap.size ∧
    ∀ t (h : t < cs.length), w.cell? ⟨b, o + t, none⟩ = some cs[t] ∧ w.frozen? ⟨b, o + t, none⟩ = false) ∧ (A = none → c = 0)
section
variable {S T : Nat → Prop} {w w' : World} {k n : Nat} {v : Value} {cs : List Value}
theorem Raw.keep (h : Raw w S k v n cs) (g : Chg T w w') (hd : ∀ b, b < w.heap.size → S b → ¬ T b) : Raw w' S k v n cs := by
  obtain ⟨h0, A, c, hv, h1, h2, h4, h5⟩ := h
  refine ⟨h0, A, c, hv, h1, h2, fun hp => ?_, h5⟩
  obtain ⟨b, o, ha, hs, hb, hc⟩ := h4 hp
  refine ⟨b, o, ha, hs, Nat.lt_of_lt_of_le hb g.size, fun j hj => ?_⟩
  have hn : ¬ T b := hd _ hb hs
  exact ⟨g.cell (hc j hj).1 hn, (g.frozen (hc j hj).1 hn).trans (hc j hj).2⟩
theorem Raw.up (h : Raw w S k v n cs) (g : Up w w') : Raw w' S k v n cs := h.keep g fun _ _ _ h => h
theorem Raw.mono (h : Raw w S k v n cs) (hs : ∀ b, b < w.heap.size → S b → T b) : Raw w T k v n cs := by
  obtain ⟨h0, A, c, hv, h1, h2, h4, h5⟩ := h
  refine ⟨h0, A, c, hv, h1, h2, fun hp => ?_, h5⟩
  obtain ⟨b, o, ha, hb, hl, hc⟩ := h4 hp
  exact ⟨b, o, ha, hs _ hl hb, hl, hc⟩
theorem Raw.shape (h : Raw w S k v n cs) : ∃ A c, v = .slice A n c ∧ n ≤ c ∧ c ≤ 9223372036854775807 ∧ (A = none → c = 0) :=
  let ⟨_, A, c, h1, h2, h3, _, h4⟩ := h; ⟨A, c, h1, h2, h3, h4⟩
theorem Raw.nil (w : World) (S : Nat → Prop) (k c : Nat) (A : Option Addr) (hc : c ≤ 9223372036854775807) (hA : A = none → c = 0 := by simp) : Raw w S k (.slice A 0 c) 0 [] :=
  ⟨by simp, A, c, rfl, by omega, hc, fun h => by omega, hA⟩
/-- a row of one's own -/
theorem Raw.of_own {base : Nat} {e : TypeId} (h : w.ownsRow base e k v n cs) : Raw w (New base w.heap.size) k v n cs := by
  obtain ⟨hl, hr⟩ := h
  rcases hr with ⟨rfl, rfl⟩ | ⟨g, cap, cur, rfl, hg, hh, hnc, hcm, hsz, htake⟩
  · have hn : cs = [] := List.eq_nil_of_length_eq_zero (by simpa using hl)
    subst hn
    exact Raw.nil w _ k 0 none (by omega)
  · have hlt : g < w.heap.size := (Array.getElem?_eq_some_iff.1 hh).1
    refine ⟨hl, _, _, rfl, hnc, hcm, fun hp => ⟨g, 0, rfl, ⟨hg, hlt⟩, hlt, fun j hj => ?_⟩, by simp⟩
    have hc := World.ownsRow.cells (w := w) (base := base) (e := e) (size := k) (v := .slice (some ⟨g, 0, none⟩) n cap) (n := n) (xs := cs)
      ⟨hl, .inr ⟨g, cap, cur, rfl, hg, hh, hnc, hcm, hsz, htake⟩⟩ (g := g) rfl j cs[j] (List.getElem?_eq_getElem hj)
    rw [add_zero] at hc
    rw [Nat.zero_add]
    exact ⟨hc, by simp [World.frozen?, hh]⟩
/-- a block of the call's own, cell by cell -/
theorem Raw.of_cells {g c : Nat} (hS : S g) (hg : g < w.heap.size) (hl : cs.length = n * k) (hc : n ≤ c) (hm : c ≤ 9223372036854775807)
    (h : ∀ t (ht : t < cs.length), w.cell? ⟨g, t, none⟩ = some cs[t] ∧ w.frozen? ⟨g, t, none⟩ = false) : Raw w S k (.slice (some ⟨g, 0, none⟩) n c) n cs :=
  ⟨hl, _, c, rfl, hc, hm, fun _ => ⟨g, 0, rfl, hS, hg, fun t ht => by rw [Nat.zero_add]; exact h t ht⟩, by simp⟩
end
/-- the cells of a list of records -/
theorem flat_length {α : Type} (f : α → List Value) (k : Nat) (hf : ∀ x, (f x).length = k) : ∀ xs : List α, (xs.flatMap f).length = xs.length * k
  | [] => by simp
  | x :: xs => by rw [List.flatMap_cons, List.length_append, hf, flat_length f k hf xs, List.length_cons, Nat.add_mul, Nat.one_mul, Nat.add_comm]
theorem flat_get {α : Type} (f : α → List Value) (k : Nat) (hf : ∀ x, (f x).length = k) : ∀ (xs : List α) (i : Nat) (h : i < xs.length) (j : Nat) (_ : j < k), (xs.flatMap f)[i * k + j]? = (f xs[i])[j]?
  | [], i, h, _, _ => by simp at h
  | x :: xs, 0, _, j, hj => by
    rw [List.flatMap_cons, Nat.zero_mul, Nat.zero_add, List.getElem?_append_left (by rw [hf]; exact hj)]
    rfl
  | x :: xs, i + 1, h, j, hj => by
    have hi : i < xs.length := by simpa using h
    rw [List.flatMap_cons, List.getElem?_append_right (by rw [hf, Nat.add_mul]; omega), hf]
    have e : (i + 1) * k + j - k = i * k + j := by rw [Nat.add_mul]; omega
    rw [e, flat_get f k hf xs i hi j hj]
    rfl
theorem Raw.at_ {α : Type} {f : α → List Value} {S : Nat → Prop} {w : World} {k : Nat} {v : Value} {xs : List α} (hf : ∀ x, (f x).length = k) (h : Raw w S k v xs.length (xs.flatMap f)) {i : Nat} (hi : i < xs.length) :
    ∃ b o c, v = .slice (some ⟨b, o, none⟩) xs.length c ∧ S b ∧ b < w.heap.size ∧ ∀ j u, (f xs[i])[j]? = some u → w.cell? ⟨b, o + i * k + j, none⟩ = some u ∧ w.frozen? ⟨b, o + i * k + j, none⟩ = false := by
  obtain ⟨h0, A, c, hv, h1, h2, h4, _⟩ := h
  obtain ⟨b, o, rfl, hs, hb, hc⟩ := h4 (by omega)
  refine ⟨b, o, c, hv, hs, hb, fun j u hu => ?_⟩
  have hj : j < k := by
    rcases Nat.lt_or_ge j k with h | h
    · exact h
    · rw [List.getElem?_eq_none (by rw [hf]; exact h)] at hu; cases hu
  have hg := flat_get f k hf xs i hi j hj
  rw [hu] at hg
  obtain ⟨hlt, he⟩ := List.getElem?_eq_some_iff.1 hg
  have := hc (i * k + j) hlt
  rw [he] at this
  rwa [← Nat.add_assoc] at this
/-- the cells that bear the marks from q on -/
def markCells (q : Int) (n : Nat) : List Value := (marks q n).map (Value.int .i64)
theorem markCells_length (q : Int) (n : Nat) : (markCells q n).length = n := by simp [markCells, marks_length]
theorem markCells_get (q : Int) (n t : Nat) (h : t < n) : (markCells q n)[t]? = some (.int .i64 (q + t)) := by
  simp [markCells, marks, h]
theorem Chg.setCells {S : Nat → Prop} {a : World} {b : Nat} (hb : S b) : ∀ (vs : List Value) (o : Nat) {w : World}, Chg S a w → Chg S a (w.setCells b o vs)
  | [], _, _, h => h
  | v :: r, o, _, h => Chg.setCells hb r (o + 1) (h.setCell (.inl hb) v)
/-- in the middle of marking: all cells of the row are there; the first ones bear their marks -/
def Marking (w : World) (b o m n j : Nat) (k : Int) : Prop :=
  ∀ t, t < n * m → (∃ u, w.cell? ⟨b, o + t, none⟩ = some u) ∧ w.frozen? ⟨b, o + t, none⟩ = false ∧ (t < j * m → w.cell? ⟨b, o + t, none⟩ = some (.int .i64 (k + t)))
theorem Marking.cell {w : World} {b o m n j : Nat} {k : Int} (h : Marking w b o m n j k) (hj : j < n) (i : Nat) (hi : i < m) :
    ∃ u, w.cell? ⟨b, o + j * m + i, none⟩ = some u ∧ w.frozen? ⟨b, o + j * m + i, none⟩ = false := by
  have hlt : j * m + i < n * m := by
    have : (j + 1) * m ≤ n * m := Nat.mul_le_mul_right m hj
    rw [Nat.add_mul] at this
    omega
  obtain ⟨⟨u, h1⟩, h2, _⟩ := h (j * m + i) hlt
  rw [← Nat.add_assoc] at h1 h2
  exact ⟨u, h1, h2⟩
theorem Marking.next {w : World} {b o m n j : Nat} {k : Int} (h : Marking w b o m n j k) (hj : j < n) {vs : List Value} (hv : vs = (List.range m).map fun i : Nat => Value.int .i64 (k + m * j + i)) :
    Marking (w.setCells b (o + j * m) vs) b o m n (j + 1) k := by
  have hl : vs.length = m := by rw [hv]; simp
  intro t ht
  have hfr := (h t ht).2.1
  refine ⟨?_, by rw [World.frozen?_setCells]; exact hfr, fun hlt => ?_⟩
  · by_cases hin : j * m ≤ t ∧ t < (j + 1) * m
    · rw [Nat.add_mul] at hin
      have := World.cell?_setCells_in b vs (o + j * m) w (fun i hi => by
        obtain ⟨u, hu, _⟩ := h.cell hj i (by omega)
        simp [hu]) (t - j * m) (by omega)
      rw [show o + j * m + (t - j * m) = o + t by omega] at this
      exact ⟨_, this⟩
    · rw [Nat.add_mul] at hin
      rw [World.cell?_setCells_out b vs _ w _ (fun _ _ => by simp only []; omega)]
      exact (h t ht).1
  · by_cases hin : j * m ≤ t
    · rw [Nat.add_mul] at hlt
      have := World.cell?_setCells_in b vs (o + j * m) w (fun i hi => by
        obtain ⟨u, hu, _⟩ := h.cell hj i (by omega)
        simp [hu]) (t - j * m) (by omega)
      rw [show o + j * m + (t - j * m) = o + t by omega] at this
      rw [this]
      subst hv
      simp only [List.getElem_map, List.getElem_range, Option.some.injEq, Value.int.injEq, true_and]
      have hc : (m : Int) * j = ((j * m : Nat) : Int) := by rw [Int.natCast_mul, Int.mul_comm]
      rw [hc]
      omega
    · rw [World.cell?_setCells_out b vs _ w _ (fun _ _ => by simp only []; omega)]
      exact (h t ht).2.2 (by omega)
theorem Marking.done {w : World} {S : Nat → Prop} {b o m n c : Nat} {k : Int} (h : Marking w b o m n n k) (hS : S b) (hb : b < w.heap.size) (hc : n ≤ c) (hm : c ≤ 9223372036854775807) :
    Raw w S m (.slice (some ⟨b, o, none⟩) n c) n (markCells k (n * m)) :=
  ⟨markCells_length _ _, _, c, rfl, hc, hm, fun _ => ⟨b, o, rfl, hS, hb, fun t ht => by
    rw [markCells_length] at ht
    have hg := markCells_get k (n * m) t ht
    obtain ⟨hlt, he⟩ := List.getElem?_eq_some_iff.1 hg
    rw [he]
    exact ⟨(h t ht).2.2 ht, (h t ht).2.1⟩⟩, by simp⟩
theorem Marking.start {w : World} {b o m n : Nat} {cs : List Value} (k : Int) (hl : cs.length = n * m) (h : ∀ t (ht : t < cs.length), w.cell? ⟨b, o + t, none⟩ = some cs[t] ∧ w.frozen? ⟨b, o + t, none⟩ = false) : Marking w b o m n 0 k :=
  fun t ht => ⟨⟨_, (h t (by omega)).1⟩, (h t (by omega)).2, fun h0 => by omega⟩
theorem heap_new_at {w : World} {o : Obj} {g : Nat} (h : g = w.heap.size) : (w.alloc o).heap[g]? = some o := by
  subst h
  exact heap_alloc_new w o
/-- a block that is known whole -/
theorem Raw.of_block {w : World} {S : Nat → Prop} {k n g c : Nat} {arr : Array Value} {e : TypeId} {cs : List Value} (hh : w.heap[g]? = some (.cells arr e (0, 0))) (ha : arr.toList = cs) (hS : S g) (hl : cs.length = n * k) (hc : n ≤ c) (hm : c ≤ 9223372036854775807) :
    Raw w S k (.slice (some ⟨g, 0, none⟩) n c) n cs := by
  refine Raw.of_cells hS (Array.getElem?_eq_some_iff.1 hh).1 hl hc hm fun t ht => ?_
  subst ha
  have h1 := cell_of_row w g t arr e (0, 0) hh
  refine ⟨by rw [h1]; simp at ht; simp [ht], by simp [World.frozen?, hh]⟩
end Go.Proofs.Ytplabnjdhkmmkaa
end
section
set_option linter.unusedSimpArgs false
set_option linter.unusedVariables false
namespace Go.Proofs.Ytplabnjdhkmmkaa
open Go.ChangeShapes Go.WideShapes Go.ChangeAt Go.RowKit
def ixm (xs : List Int) (i : Nat) : Int := xs.getD i 0
theorem ixm_eq {xs : List Int} {i : Nat} (h : i < xs.length) : ixm xs i = xs[i] := by unfold ixm; simp [h]
theorem Ints.ixm {w : World} {S : Nat → Prop} {A : Option Addr} {c : Nat} {xs : List Int} (h : Ints w S (.slice A xs.length c) xs) {i : Nat} (hi : i < xs.length) :
    ∃ b o, A = some ⟨b, o, none⟩ ∧ b < w.heap.size ∧ ∀ j, j < xs.length → w.cell? ⟨b, o + j, none⟩ = some (.int .i64 (ixm xs j)) := by
  obtain ⟨A', c', he, _, _, _, hr, _⟩ := h
  obtain ⟨rfl, rfl⟩ : A = A' ∧ c = c' := by simpa using he
  obtain ⟨b, o, hA, _, hbl, hc⟩ := hr (by omega)
  exact ⟨b, o, hA, hbl, fun j hj => by rw [ixm_eq hj]; exact (hc j hj).1⟩
section
variable {P : Program} {w : World}
/-- behind an append the row lies in its own block, or in a new one -/
theorem append_block (base : Nat) (t ty e : TypeId) (i : TypeInfo) (z : Value) (size bytes : Nat) (ht : P.underlying t = some (.slice e)) (hi : P.info? e = some i) (hz : i.zero = some z)
    (hsize : i.size = size) (hby : i.bytes = bytes) (_hzs : z.cells.size = size) (_hsz : 0 < size)
    (v : Value) (n : Nat) (xs : List Value) (hown : w.ownsRow base e size v n xs)
    (a : Addr) (m c : Nat) (news : List Value) (hl : news.length = m * size) (hnews : ∀ j u, news[j]? = some u → w.cell? (a.add j) = some u) (h1 : ∀ u ∈ news, u.oneCell' = true)
    (h63 : n + m ≤ maxLen) (hbytes : (n + m) * bytes ≤ 140737488355328) {v' : Value} {w' : World}
    (hr : (Builtin.append_ #[t, t] ty #[v, .slice (some a) m c]).run P w = .ok v' w') : ∀ g, v'.ownBlock = some g → v.ownBlock = some g ∨ w.heap.size ≤ g := by
  subst hsize
  subst hby
  intro g hg
  have hsmall : n + m ≤ 9223372036854775807 := by simp only [maxLen] at h63; omega
  rcases hown.2 with ⟨rfl, rfl⟩ | ⟨g0, cap, cur, rfl, hbg, hg0, hnc, hcm, hcs, htake⟩
  · by_cases hm : m = 0
    · subst hm
      have hn : news = [] := List.eq_nil_of_length_eq_zero (by simpa using hl)
      subst hn
      have hrun : (Builtin.append_ #[t, t] ty #[.slice none 0 0, .slice (some a) 0 c]).run P w = .ok (.slice none 0 0) w := by
        simp [Builtin.append_, run_underlying ht, sizeOf, typeInfo, hi, Builtin.lenOf, Builtin.firstCells, loadCells, loadCellsFrom]
      rw [hrun] at hr
      injection hr with hr _
      subst hr
      simp [Value.ownBlock] at hg
    · have hrun := run_append_nil (P := P) w t ty e i z ht hi hz a m c news hl hnews (by omega) (by omega) (by have hb := hbytes; simp only [Nat.zero_add] at hb; omega)
      rw [hrun] at hr
      injection hr with hr _
      subst hr
      simp only [Value.ownBlock, Option.some.injEq] at hg
      exact .inr (by omega)
  · by_cases hroom : n + m ≤ cap
    · have hfit : n * i.size + news.length ≤ cur.size := by rw [hl, hcs, ← Nat.add_mul]; exact Nat.mul_le_mul_right _ hroom
      have hrun := run_append_room (P := P) w t ty e i ht hi g0 n cap cur hg0 a m c news hl hnews h1 hroom hfit
      rw [hrun] at hr
      injection hr with hr _
      subst hr
      exact .inl hg
    · have holds : ∀ j u, xs[j]? = some u → w.cell? ((⟨g0, 0, none⟩ : Addr).add j) = some u := hown.cells (g := g0) rfl
      have hrun := run_append_grow (P := P) w t ty e i z ht hi hz ⟨g0, 0, none⟩ n cap xs hown.1 holds a m c news hl hnews (by omega) (by omega) (growslice_fits (by omega) hbytes)
      rw [hrun] at hr
      injection hr with hr _
      subst hr
      simp only [Value.ownBlock, Option.some.injEq] at hg
      exact .inr (by omega)
theorem wpList_append_own2 {ops : Array Oper} {rest : List Oper} {o : Oper} {a : Act} {Q : Exit → Act → World → Prop} (hgd : o.guard = none) (s x : Operand) (t : TypeId)
    (ho : o.op = .call { callee := .builtin .append, args := #[s, x], argTypes := #[t, t] })
    (base : Nat) (e : TypeId) (i : TypeInfo) (z : Value) (size bytes : Nat) (ht : P.underlying t = some (.slice e)) (hi : P.info? e = some i) (hz : i.zero = some z)
    (hsize : i.size = size) (hby : i.bytes = bytes) (hzs : z.cells.size = size) (hsz : 0 < size)
    (v : Value) (n : Nat) (xs : List Value) (hs : a.eval s = v) (hown : w.ownsRow base e size v n xs)
    (ad : Addr) (m c : Nat) (news : List Value) (hx : a.eval x = .slice (some ad) m c) (hl : news.length = m * size) (hnews : ∀ j u, news[j]? = some u → w.cell? (ad.add j) = some u) (h1 : ∀ u ∈ news, u.oneCell' = true)
    (h63 : n + m ≤ maxLen) (hbytes : (n + m) * bytes ≤ 140737488355328) (hbase : base ≤ w.heap.size)
    (h : ∀ v' w', w'.ownsRow base e size v' (n + m) (xs ++ news) → w.grownBy w' v.ownBlock → (∀ g, v'.ownBlock = some g → v.ownBlock = some g ∨ w.heap.size ≤ g) → wpList P ops Q rest (a.put o.dst v') w') : wpList P ops Q (o :: rest) a w :=
  wpList_plain hgd fun K hK => by
    obtain ⟨v', w', hr, h2, h3, h4⟩ := run_append_own (P := P) w base t o.type e i z size bytes ht hi hz hsize hby hzs hsz v n xs hown ad m c news hl hnews h1 h63 hbytes hbase
    have h5 := append_block (P := P) base t o.type e i z size bytes ht hi hz hsize hby hzs hsz v n xs hown ad m c news hl hnews h1 h63 hbytes hr
    unfold Oper.wp execOp
    simp only [ho, resolve, invoke, builtin, Sem.run_bind, Sem.run_pure, Result.andThen_ok, List.map_toArray, List.map_cons, List.map_nil, hs, hx, hr]
    exact hK _ _ (h v' w' h2 h3 h5)
end
/-- a row of the call's own is kept where its block is -/
theorem ownsRow_kept {w w' : World} {base : Nat} {e : TypeId} {k : Nat} {v : Value} {n : Nat} {cs : List Value} {S : Nat → Prop} (h : w.ownsRow base e k v n cs) (g : Chg S w w') (hS : ∀ b, v.ownBlock = some b → ¬ S b) : w'.ownsRow base e k v n cs := by
  refine ⟨h.1, ?_⟩
  rcases h.2 with h2 | ⟨b, cap, cur, rfl, hg, hh, r⟩
  · exact Or.inl h2
  · exact Or.inr ⟨b, cap, cur, rfl, hg, (g.block b (Array.getElem?_eq_some_iff.1 hh).1 (hS b rfl)).trans hh, r⟩
theorem Chg.of_grown {w w' : World} {row : Option Nat} (h : w.grownBy w' row) : Chg (fun b => row = some b) w w' := (Chg.refl _ _).grown h fun _ hk => .inl hk
theorem OwnI.lt {w : World} {base : Nat} {v : Value} {xs : List Int} (h : OwnI w base v xs) {g : Nat} (hg : v.ownBlock = some g) : base ≤ g ∧ g < w.heap.size := h.1.lt g hg
theorem OwnI.rd {w : World} {base : Nat} {v : Value} {xs : List Int} (h : OwnI w base v xs) : Ints w (fun b => v.ownBlock = some b ∧ base ≤ b ∧ b < w.heap.size) v xs := by
  obtain ⟨A, c, rfl, h1, h2, h3, h4, h5⟩ := h.ints
  refine ⟨A, c, rfl, h1, h2, h3, fun hp => ?_, h5⟩
  obtain ⟨b, o, rfl, hs, hb, hc⟩ := h4 hp
  exact ⟨b, o, rfl, ⟨rfl, hs⟩, hb, hc⟩
/-- a slice of slices of numbers; each of them, and the row of them, in blocks of its own -/
def IntSS (w : World) (S : Nat → Prop) (v : Value) (xss : List (List Int)) : Prop :=
  ∃ (vs : List Value) (R : Nat → Prop) (Q : Nat → Nat → Prop), Raw w R 1 v xss.length vs ∧ (∀ b, R b → S b) ∧ (∀ i b, Q i b → S b ∧ ¬ R b) ∧ (∀ i j b, Q i b → Q j b → i = j) ∧
    ∀ i (h : i < xss.length), ∃ u, vs[i]? = some u ∧ Ints w (Q i) u xss[i]
section
variable {S T : Nat → Prop} {w w' : World} {v : Value} {xss : List (List Int)}
theorem IntSS.keep (h : IntSS w S v xss) (g : Chg T w w') (hd : ∀ b, b < w.heap.size → S b → ¬ T b) : IntSS w' S v xss := by
  obtain ⟨vs, R, Q, h1, h2, h3, h4, h5⟩ := h
  exact ⟨vs, R, Q, h1.keep g (fun b hb hr => hd b hb (h2 b hr)), h2, h3, h4, fun i hi => by
    obtain ⟨u, hu, hk⟩ := h5 i hi
    exact ⟨u, hu, hk.keep g (fun b hb hq => hd b hb (h3 i b hq).1)⟩⟩
theorem IntSS.up (h : IntSS w S v xss) (g : Up w w') : IntSS w' S v xss := h.keep g fun _ _ _ h => h
theorem IntSS.mono (h : IntSS w S v xss) (hs : ∀ b, S b → T b) : IntSS w T v xss := by
  obtain ⟨vs, R, Q, h1, h2, h3, h4, h5⟩ := h
  exact ⟨vs, R, Q, h1, fun b hb => hs b (h2 b hb), fun i b hq => ⟨hs b (h3 i b hq).1, (h3 i b hq).2⟩, h4, h5⟩
theorem IntSS.shape (h : IntSS w S v xss) : ∃ A c, v = .slice A xss.length c ∧ xss.length ≤ c ∧ c ≤ 9223372036854775807 ∧ (A = none → c = 0) := by
  obtain ⟨vs, R, Q, h1, _⟩ := h
  exact h1.shape
theorem IntSS.nil (w : World) (S : Nat → Prop) (c : Nat) (A : Option Addr) (hc : c ≤ 9223372036854775807) (hA : A = none → c = 0 := by simp) : IntSS w S (.slice A 0 c) [] :=
  ⟨[], fun _ => False, fun _ _ => False, Raw.nil w _ 1 c A hc hA, fun _ h => h.elim, fun _ _ h => h.elim, fun _ _ _ h => h.elim, fun i h => by simp at h⟩
/-- an element -/
theorem IntSS.at_ (h : IntSS w S v xss) {i : Nat} (hi : i < xss.length) : ∃ b o c A ci, v = .slice (some ⟨b, o, none⟩) xss.length c ∧ S b ∧ b < w.heap.size ∧ w.cell? ⟨b, o + i, none⟩ = some (.slice A xss[i].length ci) ∧ Ints w S (.slice A xss[i].length ci) xss[i] ∧ xss[i].length ≤ ci ∧ ci ≤ 9223372036854775807 := by
  obtain ⟨vs, R, Q, ⟨h0, A, c, rfl, h1, h2, h4, _⟩, hR, hQ, hD, h5⟩ := h
  obtain ⟨b, o, rfl, hs, hb, hc⟩ := h4 (by omega)
  obtain ⟨u, hu, hk⟩ := h5 i hi
  obtain ⟨Ai, ci, rfl, h6, h7, _⟩ := hk.shape
  obtain ⟨hlt, he⟩ := List.getElem?_eq_some_iff.1 hu
  refine ⟨b, o, c, Ai, ci, rfl, hR b hs, hb, ?_, hk.mono (fun b _ hq => (hQ i b hq).1), h6, h7⟩
  rw [← he]
  exact (hc i hlt).1
end
/-- such a row of the call's own -/
def OwnSS (w : World) (base : Nat) (v : Value) (xss : List (List Int)) : Prop :=
  ∃ (vs : List Value) (Q : Nat → Nat → Prop), w.ownsRow base 23 1 v xss.length vs ∧ (∀ i b, Q i b → base ≤ b ∧ b < w.heap.size ∧ v.ownBlock ≠ some b) ∧ (∀ i j b, Q i b → Q j b → i = j) ∧
    ∀ i (h : i < xss.length), ∃ u, vs[i]? = some u ∧ Ints w (Q i) u xss[i]
theorem OwnSS.made (w : World) (base : Nat) (hb : base ≤ w.heap.size) : OwnSS (w.alloc (.cells #[] 23)) base (.slice (some ⟨w.heap.size, 0, none⟩) 0 0) [] :=
  ⟨[], fun _ _ => False, World.ownsRow_made w _ 0 hb (by unfold Go.maxLen; omega) (by simp), fun _ _ h => h.elim, fun _ _ _ h => h.elim, fun i h => by simp at h⟩
theorem OwnSS.up {w w' : World} {base : Nat} {v : Value} {xss : List (List Int)} (h : OwnSS w base v xss) (g : Up w w') : OwnSS w' base v xss := by
  obtain ⟨vs, Q, h1, h2, h3, h4⟩ := h
  refine ⟨vs, Q, ownsRow_kept h1 g (fun _ _ h => h), fun i b hq => ?_, h3, fun i hi => ?_⟩
  · obtain ⟨a1, a2, a3⟩ := h2 i b hq
    exact ⟨a1, Nat.lt_of_lt_of_le a2 g.size, a3⟩
  · obtain ⟨u, hu, hk⟩ := h4 i hi
    exact ⟨u, hu, hk.up g⟩
end Go.Proofs.Ytplabnjdhkmmkaa
end
section
set_option linter.unusedSimpArgs false
set_option linter.unusedVariables false
namespace Go.Proofs.Ytplabnjdhkmmkaa
/-- a world that grew out of another -/
structure UpOf (w : World) where
  wd : World
  up : Up w wd
instance (w : World) : Nonempty (UpOf w) := ⟨⟨w, Chg.refl _ _⟩⟩
section
variable {P : Program}
theorem wp_region_up {id : Nat} {Q : Exit → Act → World → Prop} {a : Act} {w : World} {l : List Oper} (hm : P.follows .mixedOrders = true) (hB : Region.lexB .any l.toArray = true)
    (h : wpQuiet P l.toArray (fun w' => ∃ u : UpOf w, w' = u.wd) (fun a' => ∀ w', (∃ u : UpOf w, w' = u.wd) → Q .normal a' w') l a) : (Code.region id l.toArray true).wp P Q a w :=
  wp_region_quiet (C := fun w' => ∃ u : UpOf w, w' = u.wd) hm hB ⟨⟨w.drew, (Chg.refl _ _).drew⟩, rfl⟩ (by simpa using h)
theorem calls_up {w : World} {f : FuncId} {args : Array Value} {u : UpOf w} {v : Value}
    (h : Calls P f args u.wd fun e w' => e = .returned v ∧ Up u.wd w') : Calls P f args u.wd fun e w'' => e = .returned v ∧ ∃ u' : UpOf w, w'' = u'.wd :=
  h.mono fun _ _ ⟨he, hw⟩ => ⟨he, ⟨_, Chg.trans u.up hw⟩, rfl⟩
theorem calls_up_same {w : World} {f : FuncId} {args : Array Value} {u : UpOf w} {v : Value}
    (h : Calls P f args u.wd fun e w' => e = .returned v ∧ u.wd = w') : Calls P f args u.wd fun e w'' => e = .returned v ∧ ∃ u' : UpOf w, w'' = u'.wd :=
  h.mono fun _ _ ⟨he, hw⟩ => ⟨he, u, hw.symm⟩
theorem calls_up_new {w : World} {f : FuncId} {args : Array Value} {u : UpOf w} {v : Value}
    (h : Calls P f args u.wd fun e w' => e = .returned v ∧ ∃ o, w' = u.wd.alloc o) : Calls P f args u.wd fun e w'' => e = .returned v ∧ ∃ u' : UpOf w, w'' = u'.wd :=
  h.mono fun _ _ ⟨he, o, hw⟩ => ⟨he, ⟨_, by rw [hw]; exact Chg.alloc u.up o⟩, rfl⟩
theorem up_cell {w : World} {p : Addr} {v : Value} (h : w.cell? p = some v) : ∀ u : UpOf w, u.wd.cell? p = some v := fun u => Chg.cell u.up h id
end
end Go.Proofs.Ytplabnjdhkmmkaa
end
