/- Words for memory: a slice of int64 that reads as a list; worlds in which only some blocks have turned. No condition. Regions that draw their order, whose operations only read and whose callees at most make new memory: one walk serves every order. No condition. Contracts of the laws' own helpers on slices of int64: equal, marked, held, copied. No condition but room for the numbers. Rows under construction: slices of int64 to which the call appends. No condition. Words for memory: slices whose elements take several cells; operations and moves as data. No condition. -/
import Derived.Test.YtplabnjdhkmmkaaPF1
import Derived.BigQuiet
import Derived.Deep.QuietTactic
import Derived.Deep.Draws
section
set_option linter.unusedSimpArgs false
set_option linter.unusedVariables false
namespace Go.Proofs.Ytplabnjdhkmmkaa
open Go.ChangeShapes Go.WideShapes Go.ChangeAt Go.RowKit
/-- of what was there only blocks of S have turned -/
structure Chg (S : Nat → Prop) (w w' : World) : Prop where
  os : w'.os = w.os
  tape : w'.tape = w.tape
  output : w'.output = w.output
  size : w.heap.size ≤ w'.heap.size
  block : ∀ k, k < w.heap.size → ¬ S k → w'.heap[k]? = w.heap[k]?
def Nowhere : Nat → Prop := fun _ => False
def New (lo hi : Nat) : Nat → Prop := fun b => lo ≤ b ∧ b < hi
abbrev Up (w w' : World) : Prop := Chg Nowhere w w'
theorem Chg.refl (S : Nat → Prop) (w : World) : Chg S w w := ⟨rfl, rfl, rfl, Nat.le_refl _, fun _ _ _ => rfl⟩
theorem Chg.trans {S : Nat → Prop} {a b c : World} (h : Chg S a b) (k : Chg S b c) : Chg S a c :=
  ⟨k.os.trans h.os, k.tape.trans h.tape, k.output.trans h.output, Nat.le_trans h.size k.size, fun i hi hn => (k.block i (Nat.lt_of_lt_of_le hi h.size) hn).trans (h.block i hi hn)⟩
theorem Chg.mono {S T : Nat → Prop} {a b : World} (h : Chg S a b) (hs : ∀ k, k < a.heap.size → S k → T k) : Chg T a b :=
  ⟨h.os, h.tape, h.output, h.size, fun i hi hn => h.block i hi (fun hh => hn (hs i hi hh))⟩
theorem Chg.of_up {S : Nat → Prop} {a b : World} (h : Up a b) : Chg S a b := h.mono fun _ _ h => h.elim
theorem Chg.drew {S : Nat → Prop} {a w : World} (h : Chg S a w) : Chg S a w.drew := ⟨h.os, h.tape, h.output, h.size, h.block⟩
theorem Chg.drewN {S : Nat → Prop} {a w : World} (h : Chg S a w) (n : Nat) : Chg S a (w.drewN n) := ⟨h.os, h.tape, h.output, h.size, h.block⟩
theorem Chg.alloc {S : Nat → Prop} {a w : World} (h : Chg S a w) (o : Obj) : Chg S a (w.alloc o) :=
  ⟨h.os, h.tape, h.output, Nat.le_trans h.size (by simp), fun i hi hn => (Below.heap_alloc w o i (Nat.lt_of_lt_of_le hi h.size)).trans (h.block i hi hn)⟩
theorem Chg.setCell {S : Nat → Prop} {a w : World} (h : Chg S a w) {p : Addr} (hp : S p.block ∨ a.heap.size ≤ p.block) (u : Value) : Chg S a (w.setCell p u) :=
  ⟨h.os, h.tape, h.output, by simpa [World.setCell] using h.size, fun i hi hn => (Below.heap_setCell w p u i (by
    rintro rfl
    rcases hp with hp | hp
    · exact hn hp
    · omega)).trans (h.block i hi hn)⟩
theorem Chg.grown {S : Nat → Prop} {a w w' : World} {row : Option Nat} (h : Chg S a w) (hg : w.grownBy w' row) (hr : ∀ k, row = some k → S k ∨ a.heap.size ≤ k) : Chg S a w' :=
  ⟨hg.os.trans h.os, hg.tape.trans h.tape, hg.output.trans h.output, Nat.le_trans h.size hg.size, fun i hi hn =>
    (hg.block i (Nat.lt_of_lt_of_le hi h.size) (fun e => by
      rcases hr i e.symm with h1 | h1
      · exact hn h1
      · omega)).trans (h.block i hi hn)⟩
theorem Up.below {w w' : World} (h : Up w w') : Below w.heap.size w w' := ⟨h.os, h.tape, h.output, h.size, fun i hi => h.block i hi id⟩
/-- what is behind the first blocks may have turned -/
theorem Chg.below {S : Nat → Prop} {w w' : World} {B : Nat} (h : Chg S w w') (hB : B ≤ w.heap.size) (hS : ∀ k, k < B → ¬ S k) : Below B w w' :=
  ⟨h.os, h.tape, h.output, h.size, fun i hi => h.block i (by omega) (hS i hi)⟩
/-- a world that grew, and of which then only new blocks have turned, grew -/
theorem Chg.new {S : Nat → Prop} {a b c : World} (h : Up a b) (k : Chg S b c) (hS : ∀ i, i < a.heap.size → ¬ S i) : Up a c :=
  ⟨k.os.trans h.os, k.tape.trans h.tape, k.output.trans h.output, Nat.le_trans h.size k.size, fun i hi hn => (k.block i (Nat.lt_of_lt_of_le hi h.size) (hS i hi)).trans (h.block i hi hn)⟩
theorem Chg.cell {S : Nat → Prop} {w w' : World} (h : Chg S w w') {p : Addr} {u : Value} (hc : w.cell? p = some u) (hp : ¬ S p.block) : w'.cell? p = some u :=
  (World.cell?_of_block (h.block p.block (World.block_lt_of_cell? w p hc) hp)).trans hc
theorem Chg.frozen {S : Nat → Prop} {w w' : World} (h : Chg S w w') {p : Addr} {u : Value} (hc : w.cell? p = some u) (hp : ¬ S p.block) : w'.frozen? p = w.frozen? p :=
  World.frozen?_of_block (h.block p.block (World.block_lt_of_cell? w p hc) hp)
theorem cc3 {a b : World} (g : Up a b) {p : Addr} {p' : Value} {q : Addr} {q' : Value} {r : Addr} {r' : Value} (hp : a.cell? p = some p') (hq : a.cell? q = some q') (hr : a.cell? r = some r') : b.cell? p = some p' ∧ b.cell? q = some q' ∧ b.cell? r = some r' := ⟨g.cell hp id, g.cell hq id, g.cell hr id⟩
theorem cc4 {a b : World} (g : Up a b) {p : Addr} {p' : Value} {q : Addr} {q' : Value} {r : Addr} {r' : Value} {s : Addr} {s' : Value} (hp : a.cell? p = some p') (hq : a.cell? q = some q') (hr : a.cell? r = some r') (hs : a.cell? s = some s') : b.cell? p = some p' ∧ b.cell? q = some q' ∧ b.cell? r = some r' ∧ b.cell? s = some s' := ⟨g.cell hp id, g.cell hq id, g.cell hr id, g.cell hs id⟩
theorem cc5 {a b : World} (g : Up a b) {p : Addr} {p' : Value} {q : Addr} {q' : Value} {r : Addr} {r' : Value} {s : Addr} {s' : Value} {t : Addr} {t' : Value} (hp : a.cell? p = some p') (hq : a.cell? q = some q') (hr : a.cell? r = some r') (hs : a.cell? s = some s') (ht : a.cell? t = some t') : b.cell? p = some p' ∧ b.cell? q = some q' ∧ b.cell? r = some r' ∧ b.cell? s = some s' ∧ b.cell? t = some t' := ⟨g.cell hp id, g.cell hq id, g.cell hr id, g.cell hs id, g.cell ht id⟩
theorem cc6 {a b : World} (g : Up a b) {p : Addr} {p' : Value} {q : Addr} {q' : Value} {r : Addr} {r' : Value} {s : Addr} {s' : Value} {t : Addr} {t' : Value} {u : Addr} {u' : Value} (hp : a.cell? p = some p') (hq : a.cell? q = some q') (hr : a.cell? r = some r') (hs : a.cell? s = some s') (ht : a.cell? t = some t') (hu : a.cell? u = some u') : b.cell? p = some p' ∧ b.cell? q = some q' ∧ b.cell? r = some r' ∧ b.cell? s = some s' ∧ b.cell? t = some t' ∧ b.cell? u = some u' := ⟨g.cell hp id, g.cell hq id, g.cell hr id, g.cell hs id, g.cell ht id, g.cell hu id⟩
theorem cc7 {a b : World} (g : Up a b) {p : Addr} {p' : Value} {q : Addr} {q' : Value} {r : Addr} {r' : Value} {s : Addr} {s' : Value} {t : Addr} {t' : Value} {u : Addr} {u' : Value} {v : Addr} {v' : Value} (hp : a.cell? p = some p') (hq : a.cell? q = some q') (hr : a.cell? r = some r') (hs : a.cell? s = some s') (ht : a.cell? t = some t') (hu : a.cell? u = some u') (hv : a.cell? v = some v') : b.cell? p = some p' ∧ b.cell? q = some q' ∧ b.cell? r = some r' ∧ b.cell? s = some s' ∧ b.cell? t = some t' ∧ b.cell? u = some u' ∧ b.cell? v = some v' := ⟨g.cell hp id, g.cell hq id, g.cell hr id, g.cell hs id, g.cell ht id, g.cell hu id, g.cell hv id⟩
theorem cc8 {a b : World} (g : Up a b) {p : Addr} {p' : Value} {q : Addr} {q' : Value} {r : Addr} {r' : Value} {s : Addr} {s' : Value} {t : Addr} {t' : Value} {u : Addr} {u' : Value} {v : Addr} {v' : Value} {x : Addr} {x' : Value} (hp : a.cell? p = some p') (hq : a.cell? q = some q') (hr : a.cell? r = some r') (hs : a.cell? s = some s') (ht : a.cell? t = some t') (hu : a.cell? u = some u') (hv : a.cell? v = some v') (hx : a.cell? x = some x') : b.cell? p = some p' ∧ b.cell? q = some q' ∧ b.cell? r = some r' ∧ b.cell? s = some s' ∧ b.cell? t = some t' ∧ b.cell? u = some u' ∧ b.cell? v = some v' ∧ b.cell? x = some x' := ⟨g.cell hp id, g.cell hq id, g.cell hr id, g.cell hs id, g.cell ht id, g.cell hu id, g.cell hv id, g.cell hx id⟩
theorem add_zero (g t : Nat) : (⟨g, 0, none⟩ : Addr).add t = ⟨g, t, none⟩ := by
  unfold Addr.add
  by_cases h : t = 0 <;> simp [h]
/-- A slice of int64 that reads as the list xs; its block is one of S; its cells may be written. -/
def Ints (w : World) (S : Nat → Prop) (v : Value) (xs : List Int) : Prop :=
  ∃ A c, v = .slice A xs.length c ∧ xs.length ≤ c ∧ c ≤ 9223372036854775807 ∧ (∀ x ∈ xs, I64 x) ∧
    (0 < xs.length → ∃ b o, A = some ⟨b, o, none⟩ ∧ S b ∧ b < w.heap.size ∧ ∀ j (h : j < xs.length), w.cell? ⟨b, o + j, none⟩ = some (.int .i64 xs[j]) ∧ w.frozen? ⟨b, o + j, none⟩ = false) ∧ (A = none → c = 0)
theorem Ints.keep {S T : Nat → Prop} {w w' : World} {v : Value} {xs : List Int} (h : Ints w S v xs) (k : Chg T w w') (hd : ∀ b, b < w.heap.size → S b → ¬ T b) : Ints w' S v xs := by
  obtain ⟨A, c, hv, h1, h2, h3, h4, h5⟩ := h
  refine ⟨A, c, hv, h1, h2, h3, fun hp => ?_, h5⟩
  obtain ⟨b, o, ha, hs, hb, hc⟩ := h4 hp
  refine ⟨b, o, ha, hs, Nat.lt_of_lt_of_le hb k.size, fun j hj => ?_⟩
  have hn : ¬ T b := hd _ hb hs
  exact ⟨k.cell (hc j hj).1 hn, (k.frozen (hc j hj).1 hn).trans (hc j hj).2⟩
theorem Ints.up {S : Nat → Prop} {w w' : World} {v : Value} {xs : List Int} (h : Ints w S v xs) (k : Up w w') : Ints w' S v xs := h.keep k fun _ _ _ h => h
theorem Ints.mono {S T : Nat → Prop} {w : World} {v : Value} {xs : List Int} (h : Ints w S v xs) (hs : ∀ b, b < w.heap.size → S b → T b) : Ints w T v xs := by
  obtain ⟨A, c, hv, h1, h2, h3, h4, h5⟩ := h
  refine ⟨A, c, hv, h1, h2, h3, fun hp => ?_, h5⟩
  obtain ⟨b, o, ha, hb, hl, hc⟩ := h4 hp
  exact ⟨b, o, ha, hs _ hl hb, hl, hc⟩
theorem Ints.nil (w : World) (S : Nat → Prop) (c : Nat) (A : Option Addr) (hc : c ≤ 9223372036854775807) (hA : A = none → c = 0 := by simp) : Ints w S (.slice A 0 c) [] :=
  ⟨A, c, rfl, by simp, hc, by simp, fun h => by simp at h, hA⟩
/-- a row of one's own reads as a list -/
theorem Ints.of_own {w : World} {base : Nat} {e : TypeId} {v : Value} {n : Nat} {xs : List Int} (h : w.ownsRow base e 1 v n (xs.map (Value.int .i64))) (hx : ∀ x ∈ xs, I64 x) : Ints w (New base w.heap.size) v xs := by
  obtain ⟨hl, hr⟩ := h
  rw [List.length_map, Nat.mul_one] at hl
  subst hl
  rcases hr with ⟨rfl, h0⟩ | ⟨g, cap, cur, rfl, hg, hh, hnc, hcm, hsz, htake⟩
  · have hn : xs = [] := List.eq_nil_of_length_eq_zero h0
    subst hn
    exact Ints.nil w _ 0 none (by omega)
  · have hlt : g < w.heap.size := (Array.getElem?_eq_some_iff.1 hh).1
    refine ⟨_, _, rfl, hnc, hcm, hx, fun hp => ⟨g, 0, rfl, ⟨hg, hlt⟩, hlt, fun j hj => ?_⟩, by simp⟩
    have hc := World.ownsRow.cells (w := w) (base := base) (e := e) (size := 1) (v := .slice (some ⟨g, 0, none⟩) xs.length cap) (n := xs.length) (xs := xs.map (Value.int .i64))
      ⟨by simp, .inr ⟨g, cap, cur, rfl, hg, hh, hnc, hcm, hsz, htake⟩⟩ (g := g) rfl j (.int .i64 xs[j]) (by simp [hj])
    rw [add_zero] at hc
    rw [Nat.zero_add]
    exact ⟨hc, by simp [World.frozen?, hh]⟩
/-- a block of the call's own, cell by cell, reads as a list -/
theorem Ints.of_cells {w : World} {S : Nat → Prop} {g c : Nat} {xs : List Int} (hS : S g) (hg : g < w.heap.size) (hc : xs.length ≤ c) (hm : c ≤ 9223372036854775807) (hx : ∀ x ∈ xs, I64 x)
    (h : ∀ t (ht : t < xs.length), w.cell? ⟨g, t, none⟩ = some (.int .i64 xs[t]) ∧ w.frozen? ⟨g, t, none⟩ = false) : Ints w S (.slice (some ⟨g, 0, none⟩) xs.length c) xs :=
  ⟨_, c, rfl, hc, hm, hx, fun _ => ⟨g, 0, rfl, hS, hg, fun t ht => by rw [Nat.zero_add]; exact h t ht⟩, by simp⟩
theorem madeInts_get (n t : Nat) (h : t < n) : (madeCells #[.int .i64 0] n)[t]? = some (.int .i64 0) := by
  simp [madeCells, h, Nat.mod_one]
theorem cell_new (w : World) (cs : Array Value) (e : TypeId) (t : Nat) : (w.alloc (.cells cs e)).cell? ⟨w.heap.size, t, none⟩ = cs[t]? := cell_of_row _ _ _ _ _ _ (heap_alloc_new _ _)
theorem frozen_new (w : World) (cs : Array Value) (e : TypeId) (t : Nat) : (w.alloc (.cells cs e)).frozen? ⟨w.heap.size, t, none⟩ = false := by
  have h := heap_alloc_new w (.cells cs e)
  simp only [World.frozen?, h]
  simp
/-- a call inside a region that only reads: behind draws -/
theorem quiet_left {P : Program} {f : FuncId} {args : Array Value} {w : World} {n : Nat} {v : Value}
    (h : Calls P f args (w.drewN n) fun e w' => e = .returned v ∧ w.drewN n = w') : Calls P f args (w.drewN n) fun e w'' => e = .returned v ∧ ∃ m, w'' = w.drewN m :=
  h.mono fun _ _ ⟨he, hw⟩ => ⟨he, n, hw.symm⟩
/-- only answers were drawn -/
def Drawn (w w' : World) : Prop := ∃ n, w' = w.drewN n
theorem Drawn.refl (w : World) : Drawn w w := ⟨0, rfl⟩
theorem Drawn.drewN {w w' : World} (h : Drawn w w') (n : Nat) : Drawn w (w'.drewN n) := by
  obtain ⟨m, rfl⟩ := h
  exact ⟨m + n, by rw [World.drewN_drewN]⟩
theorem Drawn.trans {a b c : World} (h : Drawn a b) (k : Drawn b c) : Drawn a c := by
  obtain ⟨n, rfl⟩ := k
  exact h.drewN n
theorem Drawn.up {w w' : World} (h : Drawn w w') : Up w w' := by
  obtain ⟨n, rfl⟩ := h
  exact (Chg.refl _ _).drewN n
theorem Drawn.heap {w w' : World} (h : Drawn w w') : w'.heap = w.heap := by
  obtain ⟨n, rfl⟩ := h
  rfl
theorem Drawn.cell {w w' : World} (h : Drawn w w') {p : Addr} {u : Value} (hc : w.cell? p = some u) : w'.cell? p = some u := by
  obtain ⟨n, rfl⟩ := h
  exact hc
theorem Drawn.frozen {w w' : World} (h : Drawn w w') {p : Addr} {u : Bool} (hc : w.frozen? p = u) : w'.frozen? p = u := by
  obtain ⟨n, rfl⟩ := h
  exact hc
end Go.Proofs.Ytplabnjdhkmmkaa
end
section
set_option linter.unusedSimpArgs false
set_option linter.unusedVariables false
namespace Go.Proofs.Ytplabnjdhkmmkaa
/-- a world that grew out of another -/
structure UpOf (w : World) where
  wd : World
  up : Up w wd
instance (w : World) : Nonempty (UpOf w) := ⟨⟨w, Chg.refl _ _⟩⟩
section
variable {P : Program}
theorem wp_region_up {id : Nat} {Q : Exit → Act → World → Prop} {a : Act} {w : World} {l : List Oper} (hm : P.follows .mixedOrders = true) (hB : Region.lexB .any l.toArray = true)
    (h : wpQuiet P l.toArray (fun w' => ∃ u : UpOf w, w' = u.wd) (fun a' => ∀ w', (∃ u : UpOf w, w' = u.wd) → Q .normal a' w') l a) : (Code.region id l.toArray true).wp P Q a w :=
  wp_region_quiet (C := fun w' => ∃ u : UpOf w, w' = u.wd) hm hB ⟨⟨w.drew, (Chg.refl _ _).drew⟩, rfl⟩ (by simpa using h)
theorem calls_up {w : World} {f : FuncId} {args : Array Value} {u : UpOf w} {v : Value}
    (h : Calls P f args u.wd fun e w' => e = .returned v ∧ Up u.wd w') : Calls P f args u.wd fun e w'' => e = .returned v ∧ ∃ u' : UpOf w, w'' = u'.wd :=
  h.mono fun _ _ ⟨he, hw⟩ => ⟨he, ⟨_, Chg.trans u.up hw⟩, rfl⟩
theorem up_cell {w : World} {p : Addr} {v : Value} (h : w.cell? p = some v) : ∀ u : UpOf w, u.wd.cell? p = some v := fun u => Chg.cell u.up h id
end
end Go.Proofs.Ytplabnjdhkmmkaa
end
section
set_option linter.unusedSimpArgs false
set_option linter.unusedVariables false
namespace Go.Proofs.Ytplabnjdhkmmkaa
open Go.ChangeShapes Go.WideShapes Go.ChangeAt Go.RowKit
theorem eqInt64S_same (w : World) (S T : Nat → Prop) (v u : Value) (xs : List Int) (h : Ints w S v xs) (h2 : Ints w T u xs) :
    Calls Try.prog 130 #[v, u] w fun e w' => e = .returned (.bool true) ∧ Drawn w w' := by
  obtain ⟨A, c, rfl, hlc, hcm, -, hr, hnn⟩ := h
  obtain ⟨A2, c2, rfl, hlc2, hcm2, -, hr2, -⟩ := h2
  have hz : ((xs.length : Int) != xs.length) = false := by simp
  go_enter Try.func130, Try.ntmps130
  go_wp2
  go_loopw [5] (fun i wr => ∃ j n : Nat, j ≤ xs.length ∧ i = .int .i64 j ∧ wr = w.drewN n) (fun i _ => xs.length - (intOf i).toNat)
  case atStart => exact ⟨0, 0, by omega, rfl, rfl⟩
  case round =>
    obtain ⟨j, n, hj, rfl, rfl⟩ := hrel
    by_cases hlt : j < xs.length
    · obtain ⟨b, o, rfl, -, hbl, hc⟩ := hr (by omega)
      obtain ⟨b2, o2, rfl, -, hbl2, hc2⟩ := hr2 (by omega)
      have hcj := (hc j hlt).1
      have hcj2 := (hc2 j hlt).1
      have he : ((xs[j] : Int) != xs[j]) = false := by simp
      clear hc hc2 hr hr2
      go_wp2
      go_quiet (fail)
      go_wp2
      go_roundw
      case rel => exact ⟨j + 1, _, by omega, by go_num, rfl⟩
      case measure => simp [intOf]; omega
    · go_wp2
      go_ret
      exact ⟨rfl, _, rfl⟩
theorem heldInt64S_held (w : World) (S : Nat → Prop) (v : Value) (xs : List Int) (k : Int) (hk : 0 ≤ k) (hb : k + xs.length ≤ 4611686018427387904)
    (h : Ints w S v xs) (hx : ∀ j (h : j < xs.length), xs[j] = k + j) :
    Calls Try.prog 118 #[v, .int .i64 k] w fun e w' => e = .returned (.int .i64 (k + xs.length)) ∧ w = w' := by
  obtain ⟨A, c, rfl, hlc, hcm, -, hr, hnn⟩ := h
  go_enter Try.func118, Try.ntmps118
  go_wp2
  go_loop [1, 5] (fun q i => ∃ j : Nat, j ≤ xs.length ∧ i = .int .i64 j ∧ q = .int .i64 (k + j)) (fun _ i => xs.length - (intOf i).toNat)
  case atStart => exact ⟨0, by omega, rfl, by simp⟩
  case round =>
    obtain ⟨j, hj, rfl, rfl⟩ := hrel
    by_cases hlt : j < xs.length
    · obtain ⟨b, o, rfl, -, hbl, hc⟩ := hr (by omega)
      have hcj := (hc j hlt).1
      have he : ((xs[j] : Int) != k + j) = false := by simp [hx j hlt]
      clear hc hr hx
      go_wp2
      go_round
      case rel => exact ⟨j + 1, by omega, by go_num, by simp only [Value.int.injEq, true_and]; omega⟩
      case measure => simp [intOf]; omega
    · obtain rfl : j = xs.length := by omega
      go_wp2
      go_ret
      exact ⟨rfl, rfl⟩
def marks (k : Int) (n : Nat) : List Int := (List.range n).map fun i : Nat => (k + i : Int)
theorem marks_length (k : Int) (n : Nat) : (marks k n).length = n := by simp [marks]
theorem marks_get (k : Int) (n : Nat) (j : Nat) (h : j < (marks k n).length) : (marks k n)[j] = k + j := by simp [marks]
theorem marks_mem {k : Int} {n : Nat} (hk : 0 ≤ k) (hb : k + n ≤ 4611686018427387904) : ∀ x ∈ marks k n, I64 x := by
  intro x hx
  obtain ⟨i, hi, rfl⟩ := List.mem_map.1 hx
  have := List.mem_range.1 hi
  unfold I64
  omega
theorem markInt64S_marks (w : World) (S : Nat → Prop) (v : Value) (xs : List Int) (k : Int) (hk : 0 ≤ k) (hb : k + xs.length ≤ 4611686018427387904)
    (h : Ints w S v xs) :
    Calls Try.prog 117 #[v, .int .i64 k] w fun e w' => e = .returned (.int .i64 (k + xs.length)) ∧ Chg S w w' ∧ Ints w' S v (marks k xs.length) := by
  obtain ⟨A, c, rfl, hlc, hcm, -, hr, hnn⟩ := h
  have hm := marks_mem hk hb
  by_cases hz : 0 < xs.length
  · obtain ⟨b, o, rfl, hS, hbl, hc⟩ := hr hz
    have Hm := Lib.hid hm
    have Hc := Lib.hid hc
    have HS := Lib.hid hS
    clear hr hm hc hS
    go_enter Try.func117, Try.ntmps117
    go_wp2
    go_loopw [1, 5] (fun q i wr => ∃ j : Nat, j ≤ xs.length ∧ i = .int .i64 j ∧ q = .int .i64 (k + j) ∧ Hid (Chg S w wr) ∧
      Hid (∀ t (ht : t < xs.length), wr.cell? ⟨b, o + t, none⟩ = some (.int .i64 (if t < j then k + t else xs[t])) ∧ wr.frozen? ⟨b, o + t, none⟩ = false)) (fun _ i _ => xs.length - (intOf i).toNat)
    case atStart => exact ⟨0, by omega, rfl, by simp, Chg.refl _ _, fun t ht => by simpa using Hc.out t ht⟩
    case round =>
      obtain ⟨j, hj, rfl, rfl, hg, hcs⟩ := hrel
      by_cases hlt : j < xs.length
      · have hcj := (hcs.out j hlt).1
        have hfj := (hcs.out j hlt).2
        rw [if_neg (by omega)] at hcj
        go_wp2
        go_roundw
        case rel =>
          refine ⟨j + 1, by omega, by go_num, by simp only [Value.int.injEq, true_and]; omega, Chg.setCell hg (.inl HS.out) _, fun t ht => ?_⟩
          obtain ⟨h1, h2⟩ := hcs.out t ht
          by_cases e : t = j
          · subst e
            rw [if_pos (by omega)]
            exact ⟨World.cell?_setCell_same _ _ _ hcj, by simpa using hfj⟩
          · rw [World.cell?_setCell_other _ _ _ _ (fun h => e (by injection h with _ h _; omega))]
            refine ⟨?_, by simpa using h2⟩
            rw [h1]
            by_cases ht2 : t < j
            · rw [if_pos ht2, if_pos (by omega)]
            · rw [if_neg ht2, if_neg (by omega)]
        case measure => simp [intOf]; omega
      · obtain rfl : j = xs.length := by omega
        go_wp2
        go_ret
        refine ⟨rfl, hg, ⟨_, c, by rw [marks_length], by rw [marks_length]; exact hlc, hcm, Hm.out, fun _ => ⟨b, o, rfl, HS.out, Nat.lt_of_lt_of_le hbl hg.out.size, fun t ht => ?_⟩, by simp⟩⟩
        have ht' : t < xs.length := by rwa [marks_length] at ht
        obtain ⟨h1, h2⟩ := hcs.out t ht'
        rw [if_pos ht'] at h1
        exact ⟨by rw [h1, marks_get], h2⟩
  · have hn : xs = [] := List.eq_nil_of_length_eq_zero (by omega)
    subst hn
    clear hr
    go_enter Try.func117, Try.ntmps117
    go_wp2
    go_loop [1, 5] (fun q i => i = .int .i64 0 ∧ q = .int .i64 k) (fun _ _ => 0)
    case atStart => exact ⟨rfl, rfl⟩
    case round =>
      obtain ⟨rfl, rfl⟩ := hrel
      go_wp2
      go_ret
      refine ⟨by simp, Chg.refl _ _, ?_⟩
      exact Ints.nil _ _ _ _ hcm hnn
/-- a slice of int64 that bears the marks from k on -/
def MInts (w : World) (S : Nat → Prop) (v : Value) (xs : List Int) (k : Int) : Prop := Ints w S v (marks k xs.length)
theorem MInts.keep {S T : Nat → Prop} {w w' : World} {v : Value} {xs : List Int} {k : Int} (h : MInts w S v xs k) (g : Chg T w w') (hd : ∀ b, b < w.heap.size → S b → ¬ T b) : MInts w' S v xs k := Ints.keep h g hd
theorem MInts.up {S : Nat → Prop} {w w' : World} {v : Value} {xs : List Int} {k : Int} (h : MInts w S v xs k) (g : Up w w') : MInts w' S v xs k := Ints.up h g
theorem Ints.shape {w : World} {S : Nat → Prop} {v : Value} {xs : List Int} (h : Ints w S v xs) : ∃ A c, v = .slice A xs.length c ∧ xs.length ≤ c ∧ c ≤ 9223372036854775807 ∧ (A = none → c = 0) :=
  let ⟨A, c, h1, h2, h3, _, _, h4⟩ := h; ⟨A, c, h1, h2, h3, h4⟩
def cntInts (xs : List Int) : Nat := xs.length
theorem markInts (w : World) (S : Nat → Prop) (v : Value) (xs : List Int) (k : Int) (hk : 0 ≤ k) (hb : k + cntInts xs ≤ 4611686018427387904) (h : Ints w S v xs) :
    Calls Try.prog 117 #[v, .int .i64 k] w fun e w' => e = .returned (.int .i64 (k + cntInts xs)) ∧ Chg S w w' ∧ MInts w' S v xs k :=
  markInt64S_marks w S v xs k hk hb h
theorem heldInts (w : World) (S : Nat → Prop) (v : Value) (xs : List Int) (k : Int) (hk : 0 ≤ k) (hb : k + cntInts xs ≤ 4611686018427387904) (h : MInts w S v xs k) :
    Calls Try.prog 118 #[v, .int .i64 k] w fun e w' => e = .returned (.int .i64 (k + cntInts xs)) ∧ Up w w' := by
  have h2 := heldInt64S_held w S v (marks k xs.length) k hk (by rw [marks_length]; exact hb) h (fun j hj => marks_get _ _ _ hj)
  rw [marks_length] at h2
  exact h2.mono fun e w' ⟨he, hw⟩ => ⟨he, hw ▸ Chg.refl _ _⟩
theorem info2 : (Try.prog.info? 2).map (fun i => (i.zero, i.size, i.bytes)) = some (some (.int .i64 0), 1, 8) := by kernel_rfl
end Go.Proofs.Ytplabnjdhkmmkaa
end
section
set_option linter.unusedSimpArgs false
set_option linter.unusedVariables false
namespace Go.Proofs.Ytplabnjdhkmmkaa
open Go.ChangeShapes Go.WideShapes Go.ChangeAt Go.RowKit
/-- a slice of int64 of the call's own, from block base on -/
def OwnI (w : World) (base : Nat) (v : Value) (xs : List Int) : Prop :=
  w.ownsRow base 2 1 v xs.length (xs.map (Value.int .i64)) ∧ ∀ x ∈ xs, I64 x
theorem OwnI.nil (w : World) (base : Nat) : OwnI w base (.slice none 0 0) [] := ⟨World.ownsRow_nil _ _ _ _, by simp⟩
theorem OwnI.made (w : World) (base : Nat) (hb : base ≤ w.heap.size) : OwnI (w.alloc (.cells #[] 2)) base (.slice (some ⟨w.heap.size, 0, none⟩) 0 0) [] :=
  ⟨World.ownsRow_made w _ 0 hb (by unfold Go.maxLen; omega) (by simp), by simp⟩
theorem OwnI.alloc {w : World} {base : Nat} {v : Value} {xs : List Int} (h : OwnI w base v xs) (o : Obj) : OwnI (w.alloc o) base v xs := ⟨h.1.alloc o, h.2⟩
theorem OwnI.kept {w w' : World} {base : Nat} {v : Value} {xs : List Int} {S : Nat → Prop} (h : OwnI w base v xs) (k : Chg S w w') (hS : ∀ g, v.ownBlock = some g → ¬ S g) : OwnI w' base v xs := by
  refine ⟨⟨h.1.1, ?_⟩, h.2⟩
  rcases h.1.2 with h2 | ⟨g, cap, cur, rfl, hg, hh, r⟩
  · exact Or.inl h2
  · exact Or.inr ⟨g, cap, cur, rfl, hg, (k.block g (Array.getElem?_eq_some_iff.1 hh).1 (hS g rfl)).trans hh, r⟩
theorem OwnI.up {w w' : World} {base : Nat} {v : Value} {xs : List Int} (h : OwnI w base v xs) (k : Up w w') : OwnI w' base v xs := h.kept k fun _ _ h => h
theorem OwnI.ints {w : World} {base : Nat} {v : Value} {xs : List Int} (h : OwnI w base v xs) : Ints w (New base w.heap.size) v xs := Ints.of_own h.1 h.2
/-- 'out = append(out, x)' -/
theorem wp_append_int {w : World} {ops : Array Oper} {rest : List Oper} {o : Oper} {a : Act} {Q : Exit → Act → World → Prop} (hgd : o.guard = none) (s x : Operand)
    (ho : o.op = .call { callee := .builtin .append, args := #[s, x], argTypes := #[23, 23] })
    (base : Nat) (v : Value) (xs : List Int) (hs : a.eval s = v) (hown : OwnI w base v xs)
    (g : Nat) (n : Int) (hx : a.eval x = .slice (some ⟨g, 0, none⟩) 1 1) (hc : w.cell? ⟨g, 0, none⟩ = some (.int .i64 n)) (hn : I64 n) (hlen : xs.length ≤ 1099511627776) (hbase : base ≤ w.heap.size)
    (h : ∀ v' w', OwnI w' base v' (xs ++ [n]) → w.grownBy w' v.ownBlock → Chg (fun k => base ≤ k) w w' → wpList Try.prog ops Q rest (a.put o.dst v') w') : wpList Try.prog ops Q (o :: rest) a w := by
  obtain ⟨i0, hi, hz0, hz1, hz2⟩ := info_parts info2
  refine wpList_append_own (P := Try.prog) w hgd s x 23 ho base 2 i0 (.int .i64 0) 1 8 Try.underlying23 hi hz0 hz1 hz2 rfl (by decide) v xs.length _ hs hown.1 ⟨g, 0, none⟩ 1 1 [.int .i64 n] hx rfl ?_ ?_ ?_ ?_ hbase ?_
  · intro j u hu
    cases j with
    | zero => simp only [List.getElem?_cons_zero, Option.some.injEq] at hu; subst hu; rw [add_zero]; exact hc
    | succ j => simp at hu
  · intro u hu; simp at hu; subst hu; rfl
  · unfold Go.maxLen; omega
  · omega
  · intro v' w' h2 h3 _
    refine h v' w' ⟨by simpa using h2, fun y hy => ?_⟩ h3 ((Chg.refl _ _).grown h3 fun k hk => .inl (hown.1.lt k hk).1)
    rcases List.mem_append.1 hy with h4 | h4
    · exact hown.2 y h4
    · simp at h4; subst h4; exact hn
end Go.Proofs.Ytplabnjdhkmmkaa
end
section
set_option linter.unusedSimpArgs false
set_option linter.unusedVariables false
namespace Go.Proofs.Ytplabnjdhkmmkaa
open Go.ChangeShapes Go.WideShapes Go.ChangeAt Go.RowKit
/-- A slice of n elements of k cells each, which holds the cells cs; its block is one of S; its cells may be written. -/
def Raw (w : World) (S : Nat → Prop) (k : Nat) (v : Value) (n : Nat) (cs : List Value) : Prop :=
  cs.length = n * k ∧ ∃ A c, v = .slice A n c ∧ n ≤ c ∧ c ≤ 9223372036854775807 ∧ (0 < n → ∃ b o, A = some ⟨b, o, none⟩ ∧ S b ∧ b < w.heap.size ∧
    ∀ t (h : t < cs.length), w.cell? ⟨b, o + t, none⟩ = some cs[t] ∧ w.frozen? ⟨b, o + t, none⟩ = false) ∧ (A = none → c = 0)
section
variable {S T : Nat → Prop} {w w' : World} {k n : Nat} {v : Value} {cs : List Value}
theorem Raw.keep (h : Raw w S k v n cs) (g : Chg T w w') (hd : ∀ b, b < w.heap.size → S b → ¬ T b) : Raw w' S k v n cs := by
  obtain ⟨h0, A, c, hv, h1, h2, h4, h5⟩ := h
  refine ⟨h0, A, c, hv, h1, h2, fun hp => ?_, h5⟩
  obtain ⟨b, o, ha, hs, hb, hc⟩ := h4 hp
  refine ⟨b, o, ha, hs, Nat.lt_of_lt_of_le hb g.size, fun j hj => ?_⟩
  have hn : ¬ T b := hd _ hb hs
  exact ⟨g.cell (hc j hj).1 hn, (g.frozen (hc j hj).1 hn).trans (hc j hj).2⟩
theorem Raw.up (h : Raw w S k v n cs) (g : Up w w') : Raw w' S k v n cs := h.keep g fun _ _ _ h => h
theorem Raw.mono (h : Raw w S k v n cs) (hs : ∀ b, b < w.heap.size → S b → T b) : Raw w T k v n cs := by
  obtain ⟨h0, A, c, hv, h1, h2, h4, h5⟩ := h
  refine ⟨h0, A, c, hv, h1, h2, fun hp => ?_, h5⟩
  obtain ⟨b, o, ha, hb, hl, hc⟩ := h4 hp
  exact ⟨b, o, ha, hs _ hl hb, hl, hc⟩
theorem Raw.shape (h : Raw w S k v n cs) : ∃ A c, v = .slice A n c ∧ n ≤ c ∧ c ≤ 9223372036854775807 ∧ (A = none → c = 0) :=
  let ⟨_, A, c, h1, h2, h3, _, h4⟩ := h; ⟨A, c, h1, h2, h3, h4⟩
theorem Raw.nil (w : World) (S : Nat → Prop) (k c : Nat) (A : Option Addr) (hc : c ≤ 9223372036854775807) (hA : A = none → c = 0 := by simp) : Raw w S k (.slice A 0 c) 0 [] :=
  ⟨by simp, A, c, rfl, by omega, hc, fun h => by omega, hA⟩
/-- a row of one's own -/
theorem Raw.of_own {base : Nat} {e : TypeId} (h : w.ownsRow base e k v n cs) : Raw w (New base w.heap.size) k v n cs := by
  obtain ⟨hl, hr⟩ := h
  rcases hr with ⟨rfl, rfl⟩ | ⟨g, cap, cur, rfl, hg, hh, hnc, hcm, hsz, htake⟩
  · have hn : cs = [] := List.eq_nil_of_length_eq_zero (by simpa using hl)
    subst hn
    exact Raw.nil w _ k 0 none (by omega)
  · have hlt : g < w.heap.size := (Array.getElem?_eq_some_iff.1 hh).1
    refine ⟨hl, _, _, rfl, hnc, hcm, fun hp => ⟨g, 0, rfl, ⟨hg, hlt⟩, hlt, fun j hj => ?_⟩, by simp⟩
    have hc := World.ownsRow.cells (w := w) (base := base) (e := e) (size := k) (v := .slice (some ⟨g, 0, none⟩) n cap) (n := n) (xs := cs)
      ⟨hl, .inr ⟨g, cap, cur, rfl, hg, hh, hnc, hcm, hsz, htake⟩⟩ (g := g) rfl j cs[j] (List.getElem?_eq_getElem hj)
    rw [add_zero] at hc
    rw [Nat.zero_add]
    exact ⟨hc, by simp [World.frozen?, hh]⟩
/-- a block of the call's own, cell by cell -/
theorem Raw.of_cells {g c : Nat} (hS : S g) (hg : g < w.heap.size) (hl : cs.length = n * k) (hc : n ≤ c) (hm : c ≤ 9223372036854775807)
    (h : ∀ t (ht : t < cs.length), w.cell? ⟨g, t, none⟩ = some cs[t] ∧ w.frozen? ⟨g, t, none⟩ = false) : Raw w S k (.slice (some ⟨g, 0, none⟩) n c) n cs :=
  ⟨hl, _, c, rfl, hc, hm, fun _ => ⟨g, 0, rfl, hS, hg, fun t ht => by rw [Nat.zero_add]; exact h t ht⟩, by simp⟩
end
/-- the cells of a list of records -/
theorem flat_length {α : Type} (f : α → List Value) (k : Nat) (hf : ∀ x, (f x).length = k) : ∀ xs : List α, (xs.flatMap f).length = xs.length * k
  | [] => by simp
  | x :: xs => by rw [List.flatMap_cons, List.length_append, hf, flat_length f k hf xs, List.length_cons, Nat.add_mul, Nat.one_mul, Nat.add_comm]
theorem flat_get {α : Type} (f : α → List Value) (k : Nat) (hf : ∀ x, (f x).length = k) : ∀ (xs : List α) (i : Nat) (h : i < xs.length) (j : Nat) (_ : j < k), (xs.flatMap f)[i * k + j]? = (f xs[i])[j]?
  | [], i, h, _, _ => by simp at h
  | x :: xs, 0, _, j, hj => by
    rw [List.flatMap_cons, Nat.zero_mul, Nat.zero_add, List.getElem?_append_left (by rw [hf]; exact hj)]
    rfl
  | x :: xs, i + 1, h, j, hj => by
    have hi : i < xs.length := by simpa using h
    rw [List.flatMap_cons, List.getElem?_append_right (by rw [hf, Nat.add_mul]; omega), hf]
    have e : (i + 1) * k + j - k = i * k + j := by rw [Nat.add_mul]; omega
    rw [e, flat_get f k hf xs i hi j hj]
    rfl
theorem Raw.at_ {α : Type} {f : α → List Value} {S : Nat → Prop} {w : World} {k : Nat} {v : Value} {xs : List α} (hf : ∀ x, (f x).length = k) (h : Raw w S k v xs.length (xs.flatMap f)) {i : Nat} (hi : i < xs.length) :
    ∃ b o c, v = .slice (some ⟨b, o, none⟩) xs.length c ∧ S b ∧ b < w.heap.size ∧ ∀ j u, (f xs[i])[j]? = some u → w.cell? ⟨b, o + i * k + j, none⟩ = some u ∧ w.frozen? ⟨b, o + i * k + j, none⟩ = false := by
  obtain ⟨h0, A, c, hv, h1, h2, h4, _⟩ := h
  obtain ⟨b, o, rfl, hs, hb, hc⟩ := h4 (by omega)
  refine ⟨b, o, c, hv, hs, hb, fun j u hu => ?_⟩
  have hj : j < k := by
    rcases Nat.lt_or_ge j k with h | h
    · exact h
    · rw [List.getElem?_eq_none (by rw [hf]; exact h)] at hu; cases hu
  have hg := flat_get f k hf xs i hi j hj
  rw [hu] at hg
  obtain ⟨hlt, he⟩ := List.getElem?_eq_some_iff.1 hg
  have := hc (i * k + j) hlt
  rw [he] at this
  rwa [← Nat.add_assoc] at this
/-- the cells that bear the marks from q on -/
def markCells (q : Int) (n : Nat) : List Value := (marks q n).map (Value.int .i64)
theorem markCells_length (q : Int) (n : Nat) : (markCells q n).length = n := by simp [markCells, marks_length]
theorem markCells_get (q : Int) (n t : Nat) (h : t < n) : (markCells q n)[t]? = some (.int .i64 (q + t)) := by
  simp [markCells, marks, h]
theorem Chg.setCells {S : Nat → Prop} {a : World} {b : Nat} (hb : S b) : ∀ (vs : List Value) (o : Nat) {w : World}, Chg S a w → Chg S a (w.setCells b o vs)
  | [], _, _, h => h
  | v :: r, o, _, h => Chg.setCells hb r (o + 1) (h.setCell (.inl hb) v)
/-- in the middle of marking: all cells of the row are there; the first ones bear their marks -/
def Marking (w : World) (b o m n j : Nat) (k : Int) : Prop :=
  ∀ t, t < n * m → (∃ u, w.cell? ⟨b, o + t, none⟩ = some u) ∧ w.frozen? ⟨b, o + t, none⟩ = false ∧ (t < j * m → w.cell? ⟨b, o + t, none⟩ = some (.int .i64 (k + t)))
theorem Marking.cell {w : World} {b o m n j : Nat} {k : Int} (h : Marking w b o m n j k) (hj : j < n) (i : Nat) (hi : i < m) :
    ∃ u, w.cell? ⟨b, o + j * m + i, none⟩ = some u ∧ w.frozen? ⟨b, o + j * m + i, none⟩ = false := by
  have hlt : j * m + i < n * m := by
    have : (j + 1) * m ≤ n * m := Nat.mul_le_mul_right m hj
    rw [Nat.add_mul] at this
    omega
  obtain ⟨⟨u, h1⟩, h2, _⟩ := h (j * m + i) hlt
  rw [← Nat.add_assoc] at h1 h2
  exact ⟨u, h1, h2⟩
theorem Marking.next {w : World} {b o m n j : Nat} {k : Int} (h : Marking w b o m n j k) (hj : j < n) {vs : List Value} (hv : vs = (List.range m).map fun i : Nat => Value.int .i64 (k + m * j + i)) :
    Marking (w.setCells b (o + j * m) vs) b o m n (j + 1) k := by
  have hl : vs.length = m := by rw [hv]; simp
  intro t ht
  have hfr := (h t ht).2.1
  refine ⟨?_, by rw [World.frozen?_setCells]; exact hfr, fun hlt => ?_⟩
  · by_cases hin : j * m ≤ t ∧ t < (j + 1) * m
    · rw [Nat.add_mul] at hin
      have := World.cell?_setCells_in b vs (o + j * m) w (fun i hi => by
        obtain ⟨u, hu, _⟩ := h.cell hj i (by omega)
        simp [hu]) (t - j * m) (by omega)
      rw [show o + j * m + (t - j * m) = o + t by omega] at this
      exact ⟨_, this⟩
    · rw [Nat.add_mul] at hin
      rw [World.cell?_setCells_out b vs _ w _ (fun _ _ => by simp only []; omega)]
      exact (h t ht).1
  · by_cases hin : j * m ≤ t
    · rw [Nat.add_mul] at hlt
      have := World.cell?_setCells_in b vs (o + j * m) w (fun i hi => by
        obtain ⟨u, hu, _⟩ := h.cell hj i (by omega)
        simp [hu]) (t - j * m) (by omega)
      rw [show o + j * m + (t - j * m) = o + t by omega] at this
      rw [this]
      subst hv
      simp only [List.getElem_map, List.getElem_range, Option.some.injEq, Value.int.injEq, true_and]
      have hc : (m : Int) * j = ((j * m : Nat) : Int) := by rw [Int.natCast_mul, Int.mul_comm]
      rw [hc]
      omega
    · rw [World.cell?_setCells_out b vs _ w _ (fun _ _ => by simp only []; omega)]
      exact (h t ht).2.2 (by omega)
theorem Marking.done {w : World} {S : Nat → Prop} {b o m n c : Nat} {k : Int} (h : Marking w b o m n n k) (hS : S b) (hb : b < w.heap.size) (hc : n ≤ c) (hm : c ≤ 9223372036854775807) :
    Raw w S m (.slice (some ⟨b, o, none⟩) n c) n (markCells k (n * m)) :=
  ⟨markCells_length _ _, _, c, rfl, hc, hm, fun _ => ⟨b, o, rfl, hS, hb, fun t ht => by
    rw [markCells_length] at ht
    have hg := markCells_get k (n * m) t ht
    obtain ⟨hlt, he⟩ := List.getElem?_eq_some_iff.1 hg
    rw [he]
    exact ⟨(h t ht).2.2 ht, (h t ht).2.1⟩⟩, by simp⟩
theorem Marking.start {w : World} {b o m n : Nat} {cs : List Value} (k : Int) (hl : cs.length = n * m) (h : ∀ t (ht : t < cs.length), w.cell? ⟨b, o + t, none⟩ = some cs[t] ∧ w.frozen? ⟨b, o + t, none⟩ = false) : Marking w b o m n 0 k :=
  fun t ht => ⟨⟨_, (h t (by omega)).1⟩, (h t (by omega)).2, fun h0 => by omega⟩
theorem Raw.mark {w : World} {S : Nat → Prop} {m : Nat} {v : Value} {n : Nat} {k : Int} (h : Raw w S m v n (markCells k (n * m))) {j : Nat} (hj : j < n) :
    ∃ b o c, v = .slice (some ⟨b, o, none⟩) n c ∧ ∀ i, i < m → ∀ x : Int, x = k + m * j + i → w.cell? ⟨b, o + j * m + i, none⟩ = some (.int .i64 x) := by
  obtain ⟨_, A, c, hv, _, _, h4, _⟩ := h
  obtain ⟨b, o, rfl, _, _, hc⟩ := h4 (by omega)
  refine ⟨b, o, c, hv, fun i hi x hx => ?_⟩
  have hlt : j * m + i < n * m := by
    have : (j + 1) * m ≤ n * m := Nat.mul_le_mul_right m hj
    rw [Nat.add_mul] at this
    omega
  have hg := markCells_get k (n * m) _ hlt
  obtain ⟨h1, h2⟩ := List.getElem?_eq_some_iff.1 hg
  have := (hc (j * m + i) h1).1
  rw [h2, ← Nat.add_assoc] at this
  rw [this, hx]
  simp only [Option.some.injEq, Value.int.injEq, true_and, Int.natCast_add, Int.natCast_mul]
  rw [Int.mul_comm (j : Int)]
  omega
theorem heap_new_at {w : World} {o : Obj} {g : Nat} (h : g = w.heap.size) : (w.alloc o).heap[g]? = some o := by
  subst h
  exact heap_alloc_new w o
/-- a block that is known whole -/
theorem Raw.of_block {w : World} {S : Nat → Prop} {k n g c : Nat} {arr : Array Value} {e : TypeId} {cs : List Value} (hh : w.heap[g]? = some (.cells arr e (0, 0))) (ha : arr.toList = cs) (hS : S g) (hl : cs.length = n * k) (hc : n ≤ c) (hm : c ≤ 9223372036854775807) :
    Raw w S k (.slice (some ⟨g, 0, none⟩) n c) n cs := by
  refine Raw.of_cells hS (Array.getElem?_eq_some_iff.1 hh).1 hl hc hm fun t ht => ?_
  subst ha
  have h1 := cell_of_row w g t arr e (0, 0) hh
  refine ⟨by rw [h1]; simp at ht; simp [ht], by simp [World.frozen?, hh]⟩
end Go.Proofs.Ytplabnjdhkmmkaa
end
