/- The knitting machine in memory: its words, and what stores do to them. No condition. -/
import Derived.Test.YtiiodfcbpmkodaaGreatMachM
import Derived.Test.YtiiodfcbpmkodaaGreatOwnS
import Derived.Test.YtiiodfcbpmkodaaGreatUpR
import Derived.Sort.Row
set_option linter.unusedSimpArgs false
set_option linter.unusedVariables false
namespace Go.Proofs.YtiiodfcbpmkodaaGreat
open Go.ChangeShapes Go.WideShapes Go.ChangeAt Go.RowKit
/-- a step behind blocks that were made and draws -/
theorem tt {a b c : World} (k : Up b c) (g : Up a b := by repeat (first | exact Chg.refl _ _ | apply Chg.drew | apply Chg.drewN | refine Chg.alloc ?_ _)) : Up a c := Chg.trans g k
theorem box2 (w : World) (a b : Value) (t : TypeId) : (w.alloc (.cells #[a, b] t)).cell? ⟨w.heap.size, 0, none⟩ = some a ∧ (w.alloc (.cells #[a, b] t)).cell? ⟨w.heap.size, 1, none⟩ = some b := ⟨cell_new _ _ _ _, cell_new _ _ _ _⟩
theorem box8 (w : World) (a b c d e f g h : Value) (t : TypeId) : (w.alloc (.cells #[a, b, c, d, e, f, g, h] t)).cell? ⟨w.heap.size, 0, none⟩ = some a ∧ (w.alloc (.cells #[a, b, c, d, e, f, g, h] t)).cell? ⟨w.heap.size, 1, none⟩ = some b ∧ (w.alloc (.cells #[a, b, c, d, e, f, g, h] t)).cell? ⟨w.heap.size, 2, none⟩ = some c ∧ (w.alloc (.cells #[a, b, c, d, e, f, g, h] t)).cell? ⟨w.heap.size, 3, none⟩ = some d ∧ (w.alloc (.cells #[a, b, c, d, e, f, g, h] t)).cell? ⟨w.heap.size, 4, none⟩ = some e ∧ (w.alloc (.cells #[a, b, c, d, e, f, g, h] t)).cell? ⟨w.heap.size, 5, none⟩ = some f ∧ (w.alloc (.cells #[a, b, c, d, e, f, g, h] t)).cell? ⟨w.heap.size, 6, none⟩ = some g ∧ (w.alloc (.cells #[a, b, c, d, e, f, g, h] t)).cell? ⟨w.heap.size, 7, none⟩ = some h := ⟨cell_new _ _ _ _, cell_new _ _ _ _, cell_new _ _ _ _, cell_new _ _ _ _, cell_new _ _ _ _, cell_new _ _ _ _, cell_new _ _ _ _, cell_new _ _ _ _⟩
theorem box88 (w : World) (a b c d e f g h i j k l m n o p : Value) (t : TypeId) : (((w.alloc (.cells #[a, b, c, d, e, f, g, h] t)).alloc (.cells #[i, j, k, l, m, n, o, p] t)).cell? ⟨w.heap.size, 0, none⟩ = some a ∧ ((w.alloc (.cells #[a, b, c, d, e, f, g, h] t)).alloc (.cells #[i, j, k, l, m, n, o, p] t)).cell? ⟨w.heap.size, 1, none⟩ = some b ∧ ((w.alloc (.cells #[a, b, c, d, e, f, g, h] t)).alloc (.cells #[i, j, k, l, m, n, o, p] t)).cell? ⟨w.heap.size, 2, none⟩ = some c ∧ ((w.alloc (.cells #[a, b, c, d, e, f, g, h] t)).alloc (.cells #[i, j, k, l, m, n, o, p] t)).cell? ⟨w.heap.size, 3, none⟩ = some d ∧ ((w.alloc (.cells #[a, b, c, d, e, f, g, h] t)).alloc (.cells #[i, j, k, l, m, n, o, p] t)).cell? ⟨w.heap.size, 4, none⟩ = some e ∧ ((w.alloc (.cells #[a, b, c, d, e, f, g, h] t)).alloc (.cells #[i, j, k, l, m, n, o, p] t)).cell? ⟨w.heap.size, 5, none⟩ = some f ∧ ((w.alloc (.cells #[a, b, c, d, e, f, g, h] t)).alloc (.cells #[i, j, k, l, m, n, o, p] t)).cell? ⟨w.heap.size, 6, none⟩ = some g ∧ ((w.alloc (.cells #[a, b, c, d, e, f, g, h] t)).alloc (.cells #[i, j, k, l, m, n, o, p] t)).cell? ⟨w.heap.size, 7, none⟩ = some h) ∧ (((w.alloc (.cells #[a, b, c, d, e, f, g, h] t)).alloc (.cells #[i, j, k, l, m, n, o, p] t)).cell? ⟨w.heap.size + 1, 0, none⟩ = some i ∧ ((w.alloc (.cells #[a, b, c, d, e, f, g, h] t)).alloc (.cells #[i, j, k, l, m, n, o, p] t)).cell? ⟨w.heap.size + 1, 1, none⟩ = some j ∧ ((w.alloc (.cells #[a, b, c, d, e, f, g, h] t)).alloc (.cells #[i, j, k, l, m, n, o, p] t)).cell? ⟨w.heap.size + 1, 2, none⟩ = some k ∧ ((w.alloc (.cells #[a, b, c, d, e, f, g, h] t)).alloc (.cells #[i, j, k, l, m, n, o, p] t)).cell? ⟨w.heap.size + 1, 3, none⟩ = some l ∧ ((w.alloc (.cells #[a, b, c, d, e, f, g, h] t)).alloc (.cells #[i, j, k, l, m, n, o, p] t)).cell? ⟨w.heap.size + 1, 4, none⟩ = some m ∧ ((w.alloc (.cells #[a, b, c, d, e, f, g, h] t)).alloc (.cells #[i, j, k, l, m, n, o, p] t)).cell? ⟨w.heap.size + 1, 5, none⟩ = some n ∧ ((w.alloc (.cells #[a, b, c, d, e, f, g, h] t)).alloc (.cells #[i, j, k, l, m, n, o, p] t)).cell? ⟨w.heap.size + 1, 6, none⟩ = some o ∧ ((w.alloc (.cells #[a, b, c, d, e, f, g, h] t)).alloc (.cells #[i, j, k, l, m, n, o, p] t)).cell? ⟨w.heap.size + 1, 7, none⟩ = some p) ∧ Up w ((w.alloc (.cells #[a, b, c, d, e, f, g, h] t)).alloc (.cells #[i, j, k, l, m, n, o, p] t)) := by
  have kk := (Chg.refl Nowhere (w.alloc (.cells #[a, b, c, d, e, f, g, h] t))).alloc (.cells #[i, j, k, l, m, n, o, p] t)
  have hs : (w.alloc (.cells #[a, b, c, d, e, f, g, h] t)).heap.size = w.heap.size + 1 := by simp
  obtain ⟨a0, a1, a2, a3, a4, a5, a6, a7⟩ := box8 w a b c d e f g h t
  obtain ⟨b0, b1, b2, b3, b4, b5, b6, b7⟩ := box8 (w.alloc (.cells #[a, b, c, d, e, f, g, h] t)) i j k l m n o p t
  rw [hs] at b0 b1 b2 b3 b4 b5 b6 b7
  exact ⟨⟨Chg.cell kk a0 id, Chg.cell kk a1 id, Chg.cell kk a2 id, Chg.cell kk a3 id, Chg.cell kk a4 id, Chg.cell kk a5 id, Chg.cell kk a6 id, Chg.cell kk a7 id⟩, ⟨b0, b1, b2, b3, b4, b5, b6, b7⟩, ((Chg.refl Nowhere w).alloc _).alloc _⟩
/-- a cell that may be written -/
def CellU (w : World) (p : Addr) (u : Value) : Prop := w.cell? p = some u ∧ w.frozen? p = false
theorem CellU.keep {S : Nat → Prop} {w w' : World} {p : Addr} {u : Value} (h : CellU w p u) (g : Chg S w w') (hp : ¬ S p.block) : CellU w' p u :=
  ⟨g.cell h.1 hp, (g.frozen h.1 hp).trans h.2⟩
theorem CellU.up {w w' : World} {p : Addr} {u : Value} (h : CellU w p u) (g : Up w w') : CellU w' p u := h.keep g id
theorem CellU.set_same {w : World} {p : Addr} {u v : Value} (h : CellU w p u) : CellU (w.setCell p v) p v := ⟨World.cell?_setCell_same _ _ _ h.1, by simpa using h.2⟩
theorem CellU.set_other {w : World} {p q : Addr} {u v : Value} (h : CellU w p u) (hn : q ≠ p) : CellU (w.setCell q v) p u := ⟨by rw [World.cell?_setCell_other _ _ _ _ hn]; exact h.1, by simpa using h.2⟩
theorem CellU.lt {w : World} {p : Addr} {u : Value} (h : CellU w p u) : p.block < w.heap.size := World.block_lt_of_cell? w p h.1
/-- two slices whose own blocks are not the same -/
def Off2 (u v : Value) : Prop := ∀ g, u.ownBlock = some g → v.ownBlock ≠ some g
theorem Off2.symm {u v : Value} (h : Off2 u v) : Off2 v u := fun g hv hu => h g hu hv
theorem pw_get {l : List Value} (h : l.Pairwise Off2) {i j : Nat} (hi : i < l.length) (hj : j < l.length) (hn : i ≠ j) : Off2 l[i] l[j] := by
  rcases Nat.lt_or_ge i j with h1 | h1
  · exact List.pairwise_iff_getElem.1 h i j hi hj h1
  · exact (List.pairwise_iff_getElem.1 h j i hj hi (by omega)).symm
theorem pw_grow {l : List Value} (h : l.Pairwise Off2) {n : Nat} (hlt : ∀ v ∈ l, ∀ g, v.ownBlock = some g → g < n) {k : Nat} (hk : k < l.length) {v' : Value} (hv : ∀ g, v'.ownBlock = some g → l[k].ownBlock = some g ∨ n ≤ g) : (l.set k v').Pairwise Off2 := by
  rw [List.pairwise_iff_getElem]
  intro i j hi hj hij
  have hi' : i < l.length := by simpa using hi
  have hj' : j < l.length := by simpa using hj
  have key : ∀ q (hq : q < l.length), q ≠ k → Off2 v' l[q] := fun q hq hn g h1 h2 => by
    rcases hv g h1 with h3 | h3
    · exact pw_get h hk hq (Ne.symm hn) g h3 h2
    · have := hlt _ (List.getElem_mem hq) g h2; omega
  by_cases e1 : k = i
  · subst e1
    rw [List.getElem_set_self, List.getElem_set_ne (by omega)]
    exact key j hj' (by omega)
  · rw [List.getElem_set_ne e1]
    by_cases e2 : k = j
    · subst e2
      rw [List.getElem_set_self]
      exact (key i hi' (by omega)).symm
    · rw [List.getElem_set_ne e2]
      exact pw_get h hi' hj' (by omega)
/-- a row of one's own: one cell is written -/
theorem ownsRow_set {w : World} {base : Nat} {e : TypeId} {size n g c : Nat} {xs : List Value} (h : w.ownsRow base e size (.slice (some ⟨g, 0, none⟩) n c) n xs) {i : Nat} (u : Value) :
    (w.setCell ⟨g, i, none⟩ u).ownsRow base e size (.slice (some ⟨g, 0, none⟩) n c) n (xs.set i u) := by
  obtain ⟨hl, hr⟩ := h
  refine ⟨by simpa using hl, ?_⟩
  rcases hr with ⟨h1, _⟩ | ⟨g', cap, cur, he, hg, hh, h1, h2, h3, h4⟩
  · cases h1
  · obtain ⟨rfl, rfl⟩ : g = g' ∧ c = cap := by simpa using he
    refine .inr ⟨g, c, cur.setIfInBounds i u, rfl, hg, ?_, h1, h2, by simpa using h3, ?_⟩
    · rw [Go.Sort.setCell_eq]
      unfold Go.Sort.mapBlock
      simp only [Array.getElem?_modify, if_true, hh, Option.map_some]
      rfl
    · rw [← h4, Array.toList_setIfInBounds, List.take_set]
theorem rowKept {w w' : World} {base : Nat} {e : TypeId} {size n : Nat} {v : Value} {xs : List Value} {S : Nat → Prop} (h : w.ownsRow base e size v n xs) (k : Chg S w w') (hS : ∀ g, v.ownBlock = some g → ¬ S g) : w'.ownsRow base e size v n xs := by
  obtain ⟨hl, hr⟩ := h
  refine ⟨hl, ?_⟩
  rcases hr with h2 | ⟨g, cap, cur, rfl, hg, hh, r⟩
  · exact .inl h2
  · exact .inr ⟨g, cap, cur, rfl, hg, (k.block g (Array.getElem?_eq_some_iff.1 hh).1 (hS g rfl)).trans hh, r⟩
theorem ownsRow_some {w : World} {base : Nat} {e : TypeId} {size n : Nat} {v : Value} {xs : List Value} (h : w.ownsRow base e size v n xs) (hn : 0 < n) : ∃ g c, v = .slice (some ⟨g, 0, none⟩) n c ∧ n ≤ c ∧ c ≤ Go.maxLen ∧ g < w.heap.size ∧ ∀ i (hi : i < xs.length), CellU w ⟨g, i, none⟩ xs[i] := by
  rcases h.2 with ⟨_, h0⟩ | ⟨g, cap, cur, rfl, hg, hh, h1, h2, h3, h4⟩
  · omega
  · refine ⟨g, cap, rfl, h1, h2, (Array.getElem?_eq_some_iff.1 hh).1, fun i hi => ?_⟩
    have hc := World.ownsRow.cells (g := g) h rfl i xs[i] (by simp [hi])
    rw [add_zero] at hc
    exact ⟨hc, by simp [World.frozen?, hh]⟩
theorem ownsRow_shape {w : World} {base : Nat} {e : TypeId} {size n : Nat} {v : Value} {xs : List Value} (h : w.ownsRow base e size v n xs) : ∃ A c, v = .slice A n c ∧ n ≤ c ∧ c ≤ Go.maxLen ∧ (A = none → n = 0) := by
  rcases h.2 with ⟨rfl, rfl⟩ | ⟨g, cap, cur, rfl, hg, hh, h1, h2, h3, h4⟩
  · exact ⟨none, 0, rfl, by omega, by omega, fun _ => rfl⟩
  · exact ⟨_, cap, rfl, h1, h2, by simp⟩
def carCells (cs : List (Bool × Int)) : List Value := cs.flatMap fun c => [Value.bool c.1, .int .i64 c.2]
abbrev ptr (p : Nat) : Value := .slice (some ⟨p, 0, none⟩) 0 0
/-- the machine behind a pointer; the values of its parts are written out -/
structure MachX (w : World) (S : Nat → Prop) (K p : Nat) (m : MachM) (F B C L D : Value) (fs bs : List Value) : Prop where
  sp : S p
  c0 : CellU w ⟨p, 0, none⟩ (.int .i64 m.wd)
  c1 : CellU w ⟨p, 1, none⟩ (.int .i64 m.rack)
  c2 : CellU w ⟨p, 2, none⟩ F
  c3 : CellU w ⟨p, 3, none⟩ B
  c4 : CellU w ⟨p, 4, none⟩ C
  c5 : CellU w ⟨p, 5, none⟩ L
  c6 : CellU w ⟨p, 6, none⟩ D
  f : w.ownsRow 0 34 1 F fs.length fs
  b : w.ownsRow 0 34 1 B bs.length bs
  fl : fs.length = m.fr.length
  bl : bs.length = m.bk.length
  fi : ∀ i (h : i < fs.length), OwnI w 0 fs[i] (m.fr.getD i [])
  bi : ∀ i (h : i < bs.length), OwnI w 0 bs[i] (m.bk.getD i [])
  c : w.ownsRow 0 96 2 C m.cs.length (carCells m.cs)
  l : ∃ cs, w.ownsRow 0 103 6 L m.nl cs
  d : ∃ ds, OwnI w 0 D ds ∧ ds.length ≤ K
  own : ∀ v ∈ F :: B :: C :: L :: D :: (fs ++ bs), ∀ g, v.ownBlock = some g → S g
  ap : (ptr p :: F :: B :: C :: L :: D :: (fs ++ bs)).Pairwise Off2
def Mach (w : World) (S : Nat → Prop) (K p : Nat) (m : MachM) : Prop := ∃ F B C L D fs bs, MachX w S K p m F B C L D fs bs
section
variable {w w' : World} {S T : Nat → Prop} {K p : Nat} {m : MachM} {F B C L D : Value} {fs bs : List Value}
theorem MachX.mach (h : MachX w S K p m F B C L D fs bs) : Mach w S K p m := ⟨F, B, C, L, D, fs, bs, h⟩
theorem MachX.all_lt (h : MachX w S K p m F B C L D fs bs) : ∀ v ∈ ptr p :: F :: B :: C :: L :: D :: (fs ++ bs), ∀ g, v.ownBlock = some g → g < w.heap.size := by
  intro v hv g hg
  rcases List.mem_cons.1 hv with rfl | hv
  · obtain rfl : p = g := by simpa [Value.ownBlock] using hg
    exact h.c0.lt
  rcases List.mem_cons.1 hv with rfl | hv
  · exact (h.f.lt g hg).2
  rcases List.mem_cons.1 hv with rfl | hv
  · exact (h.b.lt g hg).2
  rcases List.mem_cons.1 hv with rfl | hv
  · exact (h.c.lt g hg).2
  rcases List.mem_cons.1 hv with rfl | hv
  · obtain ⟨cs, hl⟩ := h.l; exact (hl.lt g hg).2
  rcases List.mem_cons.1 hv with rfl | hv
  · obtain ⟨ds, hd, _⟩ := h.d; exact (hd.1.lt g hg).2
  rcases List.mem_append.1 hv with hv | hv
  · obtain ⟨i, hi, rfl⟩ := List.getElem_of_mem hv
    exact ((h.fi i hi).1.lt g hg).2
  · obtain ⟨i, hi, rfl⟩ := List.getElem_of_mem hv
    exact ((h.bi i hi).1.lt g hg).2
theorem MachX.own_all (h : MachX w S K p m F B C L D fs bs) : ∀ v ∈ ptr p :: F :: B :: C :: L :: D :: (fs ++ bs), ∀ g, v.ownBlock = some g → S g := by
  intro v hv g hg
  rcases List.mem_cons.1 hv with rfl | hv
  · obtain rfl : p = g := by simpa [Value.ownBlock] using hg
    exact h.sp
  · exact h.own v hv g hg
/-- what turned is of no part of the machine -/
theorem MachX.keep (h : MachX w S K p m F B C L D fs bs) (k : Chg T w w') (hd : ∀ b, b < w.heap.size → S b → ¬ T b) : MachX w' S K p m F B C L D fs bs := by
  have hp : ¬ T p := hd p h.c0.lt h.sp
  have hv : ∀ v ∈ ptr p :: F :: B :: C :: L :: D :: (fs ++ bs), ∀ g, v.ownBlock = some g → ¬ T g := fun v hv g hg => hd g (h.all_lt v hv g hg) (h.own_all v hv g hg)
  obtain ⟨cs, hl⟩ := h.l
  obtain ⟨ds, hds, hdk⟩ := h.d
  exact ⟨h.sp, h.c0.keep k hp, h.c1.keep k hp, h.c2.keep k hp, h.c3.keep k hp, h.c4.keep k hp, h.c5.keep k hp, h.c6.keep k hp,
    rowKept h.f k (hv F (by simp)), rowKept h.b k (hv B (by simp)), h.fl, h.bl,
    fun i hi => (h.fi i hi).kept k (hv _ (by simp)), fun i hi => (h.bi i hi).kept k (hv _ (by simp)),
    rowKept h.c k (hv C (by simp)), ⟨cs, rowKept hl k (hv L (by simp))⟩, ⟨ds, hds.kept k (hv D (by simp)), hdk⟩, h.own, h.ap⟩
theorem MachX.up (h : MachX w S K p m F B C L D fs bs) (k : Up w w') : MachX w' S K p m F B C L D fs bs := h.keep k fun _ _ _ h => h
theorem MachX.mono (h : MachX w S K p m F B C L D fs bs) (hs : ∀ b, b < w.heap.size → S b → T b) : MachX w T K p m F B C L D fs bs :=
  ⟨hs _ h.c0.lt h.sp, h.c0, h.c1, h.c2, h.c3, h.c4, h.c5, h.c6, h.f, h.b, h.fl, h.bl, h.fi, h.bi, h.c, h.l, h.d, fun v hv g hg => hs g (h.all_lt v (List.mem_cons_of_mem _ hv) g hg) (h.own v hv g hg), h.ap⟩
theorem Mach.keep (h : Mach w S K p m) (k : Chg T w w') (hd : ∀ b, b < w.heap.size → S b → ¬ T b) : Mach w' S K p m := by
  obtain ⟨F, B, C, L, D, fs, bs, h⟩ := h
  exact (h.keep k hd).mach
theorem Mach.up (h : Mach w S K p m) (k : Up w w') : Mach w' S K p m := h.keep k fun _ _ _ h => h
theorem Mach.mono (h : Mach w S K p m) (hs : ∀ b, b < w.heap.size → S b → T b) : Mach w T K p m := by
  obtain ⟨F, B, C, L, D, fs, bs, h⟩ := h
  exact (h.mono hs).mach
theorem MachX.more (h : MachX w S K p m F B C L D fs bs) {K' : Nat} (hk : K ≤ K') : MachX w S K' p m F B C L D fs bs := by
  obtain ⟨ds, hds, hdk⟩ := h.d
  exact ⟨h.sp, h.c0, h.c1, h.c2, h.c3, h.c4, h.c5, h.c6, h.f, h.b, h.fl, h.bl, h.fi, h.bi, h.c, h.l, ⟨ds, hds, Nat.le_trans hdk hk⟩, h.own, h.ap⟩
/-- two parts of the machine -/
theorem MachX.apart (h : MachX w S K p m F B C L D fs bs) {i j : Nat} (hi : i < (ptr p :: F :: B :: C :: L :: D :: (fs ++ bs)).length) (hj : j < (ptr p :: F :: B :: C :: L :: D :: (fs ++ bs)).length) (hn : i ≠ j) :
    Off2 (ptr p :: F :: B :: C :: L :: D :: (fs ++ bs))[i] (ptr p :: F :: B :: C :: L :: D :: (fs ++ bs))[j] := pw_get h.ap hi hj hn
theorem off_ptr {v : Value} {p : Nat} (h : Off2 (ptr p) v) : ∀ g, v.ownBlock = some g → g ≠ p := fun _ hg e => h p rfl (e ▸ hg)
/-- no other part lies in the struct's own block -/
theorem MachX.off_p (h : MachX w S K p m F B C L D fs bs) : ∀ v ∈ F :: B :: C :: L :: D :: (fs ++ bs), ∀ g, v.ownBlock = some g → ¬ g = p := fun v hv g hg => off_ptr ((List.pairwise_cons.1 h.ap).1 v hv) g hg
/-- the rack is set -/
theorem MachX.set_rack (h : MachX w S K p m F B C L D fs bs) (r : Int) : MachX (w.setCell ⟨p, 1, none⟩ (.int .i64 r)) S K p { m with rack := r } F B C L D fs bs := by
  have k : Chg (fun b => b = p) w (w.setCell ⟨p, 1, none⟩ (.int .i64 r)) := Chg.setCell (Chg.refl (fun b => b = p) w) (.inl (show p = p from rfl)) _
  have hv := h.off_p
  have ne : ∀ i, i ≠ 1 → (⟨p, 1, none⟩ : Addr) ≠ ⟨p, i, none⟩ := fun i hi e => hi (by injection e with _ e _; exact e.symm)
  obtain ⟨cs, hl⟩ := h.l
  obtain ⟨ds, hds, hdk⟩ := h.d
  exact ⟨h.sp, h.c0.set_other (ne 0 (by omega)), h.c1.set_same, h.c2.set_other (ne 2 (by omega)), h.c3.set_other (ne 3 (by omega)), h.c4.set_other (ne 4 (by omega)), h.c5.set_other (ne 5 (by omega)), h.c6.set_other (ne 6 (by omega)),
    rowKept h.f k (hv F (by simp)), rowKept h.b k (hv B (by simp)), h.fl, h.bl,
    fun i hi => (h.fi i hi).kept k (hv _ (by simp)), fun i hi => (h.bi i hi).kept k (hv _ (by simp)),
    rowKept h.c k (hv C (by simp)), ⟨cs, rowKept hl k (hv L (by simp))⟩, ⟨ds, hds.kept k (hv D (by simp)), hdk⟩, h.own, h.ap⟩
end
end Go.Proofs.YtiiodfcbpmkodaaGreat
