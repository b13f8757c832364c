/- The knitting machine in memory: its words, and what stores do to them. No condition. The knitting machine in memory: what stores into its beds, carriers, loops do. No condition. The program's small functions on machines. No condition. -/
import Derived.Test.YtplabnjdhkmmkaaPF11
import Derived.Test.YtplabnjdhkmmkaaPF2
import Derived.Sort.Row
import Derived.StillTailTactics
import Derived.Deep.RegionHeld3
section
set_option linter.unusedSimpArgs false
set_option linter.unusedVariables false
namespace Go.Proofs.Ytplabnjdhkmmkaa
open Go.ChangeShapes Go.WideShapes Go.ChangeAt Go.RowKit
/-- a cell that may be written -/
def CellU (w : World) (p : Addr) (u : Value) : Prop := w.cell? p = some u ∧ w.frozen? p = false
theorem CellU.keep {S : Nat → Prop} {w w' : World} {p : Addr} {u : Value} (h : CellU w p u) (g : Chg S w w') (hp : ¬ S p.block) : CellU w' p u :=
  ⟨g.cell h.1 hp, (g.frozen h.1 hp).trans h.2⟩
theorem CellU.up {w w' : World} {p : Addr} {u : Value} (h : CellU w p u) (g : Up w w') : CellU w' p u := h.keep g id
theorem CellU.set_same {w : World} {p : Addr} {u v : Value} (h : CellU w p u) : CellU (w.setCell p v) p v := ⟨World.cell?_setCell_same _ _ _ h.1, by simpa using h.2⟩
theorem CellU.set_other {w : World} {p q : Addr} {u v : Value} (h : CellU w p u) (hn : q ≠ p) : CellU (w.setCell q v) p u := ⟨by rw [World.cell?_setCell_other _ _ _ _ hn]; exact h.1, by simpa using h.2⟩
theorem CellU.lt {w : World} {p : Addr} {u : Value} (h : CellU w p u) : p.block < w.heap.size := World.block_lt_of_cell? w p h.1
/-- two slices whose own blocks are not the same -/
def Off2 (u v : Value) : Prop := ∀ g, u.ownBlock = some g → v.ownBlock ≠ some g
theorem Off2.symm {u v : Value} (h : Off2 u v) : Off2 v u := fun g hv hu => h g hu hv
theorem pw_get {l : List Value} (h : l.Pairwise Off2) {i j : Nat} (hi : i < l.length) (hj : j < l.length) (hn : i ≠ j) : Off2 l[i] l[j] := by
  rcases Nat.lt_or_ge i j with h1 | h1
  · exact List.pairwise_iff_getElem.1 h i j hi hj h1
  · exact (List.pairwise_iff_getElem.1 h j i hj hi (by omega)).symm
theorem pw_grow {l : List Value} (h : l.Pairwise Off2) {n : Nat} (hlt : ∀ v ∈ l, ∀ g, v.ownBlock = some g → g < n) {k : Nat} (hk : k < l.length) {v' : Value} (hv : ∀ g, v'.ownBlock = some g → l[k].ownBlock = some g ∨ n ≤ g) : (l.set k v').Pairwise Off2 := by
  rw [List.pairwise_iff_getElem]
  intro i j hi hj hij
  have hi' : i < l.length := by simpa using hi
  have hj' : j < l.length := by simpa using hj
  have key : ∀ q (hq : q < l.length), q ≠ k → Off2 v' l[q] := fun q hq hn g h1 h2 => by
    rcases hv g h1 with h3 | h3
    · exact pw_get h hk hq (Ne.symm hn) g h3 h2
    · have := hlt _ (List.getElem_mem hq) g h2; omega
  by_cases e1 : k = i
  · subst e1
    rw [List.getElem_set_self, List.getElem_set_ne (by omega)]
    exact key j hj' (by omega)
  · rw [List.getElem_set_ne e1]
    by_cases e2 : k = j
    · subst e2
      rw [List.getElem_set_self]
      exact (key i hi' (by omega)).symm
    · rw [List.getElem_set_ne e2]
      exact pw_get h hi' hj' (by omega)
/-- a row of one's own: one cell is written -/
theorem ownsRow_set {w : World} {base : Nat} {e : TypeId} {size n g c : Nat} {xs : List Value} (h : w.ownsRow base e size (.slice (some ⟨g, 0, none⟩) n c) n xs) {i : Nat} (u : Value) :
    (w.setCell ⟨g, i, none⟩ u).ownsRow base e size (.slice (some ⟨g, 0, none⟩) n c) n (xs.set i u) := by
  obtain ⟨hl, hr⟩ := h
  refine ⟨by simpa using hl, ?_⟩
  rcases hr with ⟨h1, _⟩ | ⟨g', cap, cur, he, hg, hh, h1, h2, h3, h4⟩
  · cases h1
  · obtain ⟨rfl, rfl⟩ : g = g' ∧ c = cap := by simpa using he
    refine .inr ⟨g, c, cur.setIfInBounds i u, rfl, hg, ?_, h1, h2, by simpa using h3, ?_⟩
    · rw [Go.Sort.setCell_eq]
      unfold Go.Sort.mapBlock
      simp only [Array.getElem?_modify, if_true, hh, Option.map_some]
      rfl
    · rw [← h4, Array.toList_setIfInBounds, List.take_set]
theorem rowKept {w w' : World} {base : Nat} {e : TypeId} {size n : Nat} {v : Value} {xs : List Value} {S : Nat → Prop} (h : w.ownsRow base e size v n xs) (k : Chg S w w') (hS : ∀ g, v.ownBlock = some g → ¬ S g) : w'.ownsRow base e size v n xs := by
  obtain ⟨hl, hr⟩ := h
  refine ⟨hl, ?_⟩
  rcases hr with h2 | ⟨g, cap, cur, rfl, hg, hh, r⟩
  · exact .inl h2
  · exact .inr ⟨g, cap, cur, rfl, hg, (k.block g (Array.getElem?_eq_some_iff.1 hh).1 (hS g rfl)).trans hh, r⟩
theorem ownsRow_some {w : World} {base : Nat} {e : TypeId} {size n : Nat} {v : Value} {xs : List Value} (h : w.ownsRow base e size v n xs) (hn : 0 < n) : ∃ g c, v = .slice (some ⟨g, 0, none⟩) n c ∧ n ≤ c ∧ c ≤ Go.maxLen ∧ g < w.heap.size ∧ ∀ i (hi : i < xs.length), CellU w ⟨g, i, none⟩ xs[i] := by
  rcases h.2 with ⟨_, h0⟩ | ⟨g, cap, cur, rfl, hg, hh, h1, h2, h3, h4⟩
  · omega
  · refine ⟨g, cap, rfl, h1, h2, (Array.getElem?_eq_some_iff.1 hh).1, fun i hi => ?_⟩
    have hc := World.ownsRow.cells (g := g) h rfl i xs[i] (by simp [hi])
    rw [add_zero] at hc
    exact ⟨hc, by simp [World.frozen?, hh]⟩
theorem ownsRow_shape {w : World} {base : Nat} {e : TypeId} {size n : Nat} {v : Value} {xs : List Value} (h : w.ownsRow base e size v n xs) : ∃ A c, v = .slice A n c ∧ n ≤ c ∧ c ≤ Go.maxLen ∧ (A = none → n = 0) := by
  rcases h.2 with ⟨rfl, rfl⟩ | ⟨g, cap, cur, rfl, hg, hh, h1, h2, h3, h4⟩
  · exact ⟨none, 0, rfl, by omega, by omega, fun _ => rfl⟩
  · exact ⟨_, cap, rfl, h1, h2, by simp⟩
def carCells (cs : List (Bool × Int)) : List Value := cs.flatMap fun c => [Value.bool c.1, .int .i64 c.2]
abbrev ptr (p : Nat) : Value := .slice (some ⟨p, 0, none⟩) 0 0
/-- loop i is told: its numbers, its parents; these lie in blocks of which no part of the machine is -/
def InfoR (w : World) (S : Nat → Prop) (parts cs : List Value) (i : Nat) : Prop := ∃ (k c b a d : Int) (A : Option Addr) (n : Nat) (xs : List Int) (P : Nat → Prop), (cs.drop (i * 6)).take 6 = [.int .i64 k, .int .i64 c, .int .i64 b, .int .i64 a, .int .i64 d, .slice A xs.length n] ∧ Ints w P (.slice A xs.length n) xs ∧ xs.length ≤ 4 ∧ ∀ x, P x → S x ∧ x < w.heap.size ∧ ∀ v ∈ parts, v.ownBlock ≠ some x
theorem InfoR.keep {w w' : World} {S T : Nat → Prop} {parts cs : List Value} {i : Nat} (h : InfoR w S parts cs i) (g : Chg T w w') (hd : ∀ b, b < w.heap.size → S b → ¬ T b) : InfoR w' S parts cs i := by
  obtain ⟨k, c, b, a, d, A, n, xs, P, e, hx, hl, hp⟩ := h
  exact ⟨k, c, b, a, d, A, n, xs, P, e, hx.keep g (fun x hx2 hp2 => hd x hx2 (hp x hp2).1), hl, fun x hx2 => ⟨(hp x hx2).1, Nat.lt_of_lt_of_le (hp x hx2).2.1 g.size, (hp x hx2).2.2⟩⟩
theorem InfoR.mono {w : World} {S S' : Nat → Prop} {parts parts' cs : List Value} {i : Nat} (h : InfoR w S parts cs i) (hs : ∀ b, b < w.heap.size → S b → S' b) (hv : ∀ v ∈ parts', v ∈ parts) : InfoR w S' parts' cs i := by
  obtain ⟨k, c, b, a, d, A, n, xs, P, e, hx, hl, hp⟩ := h
  exact ⟨k, c, b, a, d, A, n, xs, P, e, hx, hl, fun x hx2 => ⟨hs x (hp x hx2).2.1 (hp x hx2).1, (hp x hx2).2.1, fun v h => (hp x hx2).2.2 v (hv v h)⟩⟩
theorem InfoR.turn {w w' : World} {S S' T : Nat → Prop} {parts parts' cs : List Value} {i : Nat} (h : InfoR w S parts cs i) (g : Chg T w w') (hT : ∀ x, T x → (∃ v ∈ parts, v.ownBlock = some x) ∨ w.heap.size ≤ x) (hs : ∀ b, S b → S' b) (hv : ∀ v ∈ parts', ∀ x, v.ownBlock = some x → (∃ u ∈ parts, u.ownBlock = some x) ∨ w.heap.size ≤ x) : InfoR w' S' parts' cs i := by
  obtain ⟨k, c, b, a, d, A, n, xs, P, e, hx, hl, hp⟩ := h
  refine ⟨k, c, b, a, d, A, n, xs, P, e, hx.keep g (fun x hx2 hp2 ht => ?_), hl, fun x hx2 => ⟨hs x (hp x hx2).1, Nat.lt_of_lt_of_le (hp x hx2).2.1 g.size, fun v h e2 => ?_⟩⟩
  · rcases hT x ht with ⟨v, h1, h2⟩ | h1
    · exact (hp x hp2).2.2 v h1 h2
    · omega
  · rcases hv v h x e2 with ⟨u, h1, h2⟩ | h1
    · exact (hp x hx2).2.2 u h1 h2
    · have := (hp x hx2).2.1; omega
theorem InfoR.turn2 {w w' : World} {S S' T : Nat → Prop} {parts parts' cs : List Value} {i : Nat} (h : InfoR w S parts cs i) (g : Chg T w w') (hT : ∀ x, T x → (∃ v ∈ parts, v.ownBlock = some x) ∨ ¬ (S x ∧ x < w.heap.size)) (hs : ∀ b, S b → S' b) (hv : ∀ v ∈ parts', ∀ x, v.ownBlock = some x → (∃ u ∈ parts, u.ownBlock = some x) ∨ ¬ (S x ∧ x < w.heap.size)) : InfoR w' S' parts' cs i := by
  obtain ⟨k, c, b, a, d, A, n, xs, P, e, hx, hl, hp⟩ := h
  refine ⟨k, c, b, a, d, A, n, xs, P, e, hx.keep g (fun x hx2 hp2 ht => ?_), hl, fun x hx2 => ⟨hs x (hp x hx2).1, Nat.lt_of_lt_of_le (hp x hx2).2.1 g.size, fun v h e2 => ?_⟩⟩
  · rcases hT x ht with ⟨v, h1, h2⟩ | h1
    · exact (hp x hp2).2.2 v h1 h2
    · exact h1 ⟨(hp x hp2).1, (hp x hp2).2.1⟩
  · rcases hv v h x e2 with ⟨u, h1, h2⟩ | h1
    · exact (hp x hx2).2.2 u h1 h2
    · exact h1 ⟨(hp x hx2).1, (hp x hx2).2.1⟩
/-- all loops are told -/
def InfosR (w : World) (S : Nat → Prop) (L : Value) (n : Nat) (parts : List Value) : Prop := ∃ cs, w.ownsRow 0 118 6 L n cs ∧ ∀ i, i < n → InfoR w S parts cs i
theorem InfosR.turn {w w' : World} {S S' T : Nat → Prop} {L : Value} {n : Nat} {parts parts' : List Value} (h : InfosR w S L n parts) (g : Chg T w w') (hL : ∀ x, L.ownBlock = some x → ¬ T x) (hT : ∀ x, T x → (∃ v ∈ parts, v.ownBlock = some x) ∨ w.heap.size ≤ x) (hs : ∀ b, S b → S' b) (hv : ∀ v ∈ parts', ∀ x, v.ownBlock = some x → (∃ u ∈ parts, u.ownBlock = some x) ∨ w.heap.size ≤ x) : InfosR w' S' L n parts' := by
  obtain ⟨cs, h1, h2⟩ := h
  exact ⟨cs, rowKept h1 g hL, fun i hi => (h2 i hi).turn g hT hs hv⟩
theorem InfosR.turn2 {w w' : World} {S S' T : Nat → Prop} {L : Value} {n : Nat} {parts parts' : List Value} (h : InfosR w S L n parts) (g : Chg T w w') (hL : ∀ x, L.ownBlock = some x → ¬ T x) (hT : ∀ x, T x → (∃ v ∈ parts, v.ownBlock = some x) ∨ ¬ (S x ∧ x < w.heap.size)) (hs : ∀ b, S b → S' b) (hv : ∀ v ∈ parts', ∀ x, v.ownBlock = some x → (∃ u ∈ parts, u.ownBlock = some x) ∨ ¬ (S x ∧ x < w.heap.size)) : InfosR w' S' L n parts' := by
  obtain ⟨cs, h1, h2⟩ := h
  exact ⟨cs, rowKept h1 g hL, fun i hi => (h2 i hi).turn2 g hT hs hv⟩
theorem InfosR.keep {w w' : World} {S T : Nat → Prop} {L : Value} {n : Nat} {parts : List Value} (h : InfosR w S L n parts) (g : Chg T w w') (hL : ∀ x, L.ownBlock = some x → ¬ T x) (hd : ∀ b, b < w.heap.size → S b → ¬ T b) : InfosR w' S L n parts := by
  obtain ⟨cs, h1, h2⟩ := h
  exact ⟨cs, rowKept h1 g hL, fun i hi => (h2 i hi).keep g hd⟩
theorem InfosR.mono {w : World} {S S' : Nat → Prop} {L : Value} {n : Nat} {parts parts' : List Value} (h : InfosR w S L n parts) (hs : ∀ b, b < w.heap.size → S b → S' b) (hv : ∀ v ∈ parts', v ∈ parts) : InfosR w S' L n parts' := by
  obtain ⟨cs, h1, h2⟩ := h
  exact ⟨cs, h1, fun i hi => (h2 i hi).mono hs hv⟩
/-- the machine behind a pointer; the values of its parts are written out -/
structure MachX (w : World) (S : Nat → Prop) (K p : Nat) (m : MachM) (F B C L D : Value) (fs bs : List Value) : Prop where
  sp : S p
  c0 : CellU w ⟨p, 0, none⟩ (.int .i64 m.wd)
  c1 : CellU w ⟨p, 1, none⟩ (.int .i64 m.rack)
  c2 : CellU w ⟨p, 2, none⟩ F
  c3 : CellU w ⟨p, 3, none⟩ B
  c4 : CellU w ⟨p, 4, none⟩ C
  c5 : CellU w ⟨p, 5, none⟩ L
  c6 : CellU w ⟨p, 6, none⟩ D
  f : w.ownsRow 0 23 1 F fs.length fs
  b : w.ownsRow 0 23 1 B bs.length bs
  fl : fs.length = m.fr.length
  bl : bs.length = m.bk.length
  fi : ∀ i (h : i < fs.length), OwnI w 0 fs[i] (m.fr.getD i [])
  bi : ∀ i (h : i < bs.length), OwnI w 0 bs[i] (m.bk.getD i [])
  c : w.ownsRow 0 139 2 C m.cs.length (carCells m.cs)
  l : ∃ cs, w.ownsRow 0 118 6 L m.nl cs
  d : ∃ ds, OwnI w 0 D ds ∧ ds.length ≤ K
  own : ∀ v ∈ F :: B :: C :: L :: D :: (fs ++ bs), ∀ g, v.ownBlock = some g → S g
  ap : (ptr p :: F :: B :: C :: L :: D :: (fs ++ bs)).Pairwise Off2
  ps : InfosR w S L m.nl (ptr p :: F :: B :: C :: L :: D :: (fs ++ bs))
def Mach (w : World) (S : Nat → Prop) (K p : Nat) (m : MachM) : Prop := ∃ F B C L D fs bs, MachX w S K p m F B C L D fs bs
section
variable {w w' : World} {S T : Nat → Prop} {K p : Nat} {m : MachM} {F B C L D : Value} {fs bs : List Value}
theorem MachX.mach (h : MachX w S K p m F B C L D fs bs) : Mach w S K p m := ⟨F, B, C, L, D, fs, bs, h⟩
theorem MachX.all_lt (h : MachX w S K p m F B C L D fs bs) : ∀ v ∈ ptr p :: F :: B :: C :: L :: D :: (fs ++ bs), ∀ g, v.ownBlock = some g → g < w.heap.size := by
  intro v hv g hg
  rcases List.mem_cons.1 hv with rfl | hv
  · obtain rfl : p = g := by simpa [Value.ownBlock] using hg
    exact h.c0.lt
  rcases List.mem_cons.1 hv with rfl | hv
  · exact (h.f.lt g hg).2
  rcases List.mem_cons.1 hv with rfl | hv
  · exact (h.b.lt g hg).2
  rcases List.mem_cons.1 hv with rfl | hv
  · exact (h.c.lt g hg).2
  rcases List.mem_cons.1 hv with rfl | hv
  · obtain ⟨cs, hl⟩ := h.l; exact (hl.lt g hg).2
  rcases List.mem_cons.1 hv with rfl | hv
  · obtain ⟨ds, hd, _⟩ := h.d; exact (hd.1.lt g hg).2
  rcases List.mem_append.1 hv with hv | hv
  · obtain ⟨i, hi, rfl⟩ := List.getElem_of_mem hv
    exact ((h.fi i hi).1.lt g hg).2
  · obtain ⟨i, hi, rfl⟩ := List.getElem_of_mem hv
    exact ((h.bi i hi).1.lt g hg).2
theorem MachX.own_all (h : MachX w S K p m F B C L D fs bs) : ∀ v ∈ ptr p :: F :: B :: C :: L :: D :: (fs ++ bs), ∀ g, v.ownBlock = some g → S g := by
  intro v hv g hg
  rcases List.mem_cons.1 hv with rfl | hv
  · obtain rfl : p = g := by simpa [Value.ownBlock] using hg
    exact h.sp
  · exact h.own v hv g hg
/-- what turned is of no part of the machine -/
theorem MachX.keep (h : MachX w S K p m F B C L D fs bs) (k : Chg T w w') (hd : ∀ b, b < w.heap.size → S b → ¬ T b) : MachX w' S K p m F B C L D fs bs := by
  have hp : ¬ T p := hd p h.c0.lt h.sp
  have hv : ∀ v ∈ ptr p :: F :: B :: C :: L :: D :: (fs ++ bs), ∀ g, v.ownBlock = some g → ¬ T g := fun v hv g hg => hd g (h.all_lt v hv g hg) (h.own_all v hv g hg)
  obtain ⟨cs, hl⟩ := h.l
  obtain ⟨ds, hds, hdk⟩ := h.d
  exact ⟨h.sp, h.c0.keep k hp, h.c1.keep k hp, h.c2.keep k hp, h.c3.keep k hp, h.c4.keep k hp, h.c5.keep k hp, h.c6.keep k hp,
    rowKept h.f k (hv F (by simp)), rowKept h.b k (hv B (by simp)), h.fl, h.bl,
    fun i hi => (h.fi i hi).kept k (hv _ (by simp)), fun i hi => (h.bi i hi).kept k (hv _ (by simp)),
    rowKept h.c k (hv C (by simp)), ⟨cs, rowKept hl k (hv L (by simp))⟩, ⟨ds, hds.kept k (hv D (by simp)), hdk⟩, h.own, h.ap, h.ps.keep k (hv L (by simp)) hd⟩
theorem MachX.up (h : MachX w S K p m F B C L D fs bs) (k : Up w w') : MachX w' S K p m F B C L D fs bs := h.keep k fun _ _ _ h => h
theorem MachX.mono (h : MachX w S K p m F B C L D fs bs) (hs : ∀ b, b < w.heap.size → S b → T b) : MachX w T K p m F B C L D fs bs :=
  ⟨hs _ h.c0.lt h.sp, h.c0, h.c1, h.c2, h.c3, h.c4, h.c5, h.c6, h.f, h.b, h.fl, h.bl, h.fi, h.bi, h.c, h.l, h.d, fun v hv g hg => hs g (h.all_lt v (List.mem_cons_of_mem _ hv) g hg) (h.own v hv g hg), h.ap, h.ps.mono hs (fun _ h => h)⟩
theorem Mach.keep (h : Mach w S K p m) (k : Chg T w w') (hd : ∀ b, b < w.heap.size → S b → ¬ T b) : Mach w' S K p m := by
  obtain ⟨F, B, C, L, D, fs, bs, h⟩ := h
  exact (h.keep k hd).mach
theorem Mach.up (h : Mach w S K p m) (k : Up w w') : Mach w' S K p m := h.keep k fun _ _ _ h => h
theorem Mach.mono (h : Mach w S K p m) (hs : ∀ b, b < w.heap.size → S b → T b) : Mach w T K p m := by
  obtain ⟨F, B, C, L, D, fs, bs, h⟩ := h
  exact (h.mono hs).mach
theorem MachX.more (h : MachX w S K p m F B C L D fs bs) {K' : Nat} (hk : K ≤ K') : MachX w S K' p m F B C L D fs bs := by
  obtain ⟨ds, hds, hdk⟩ := h.d
  exact ⟨h.sp, h.c0, h.c1, h.c2, h.c3, h.c4, h.c5, h.c6, h.f, h.b, h.fl, h.bl, h.fi, h.bi, h.c, h.l, ⟨ds, hds, Nat.le_trans hdk hk⟩, h.own, h.ap, h.ps⟩
/-- two parts of the machine -/
theorem MachX.apart (h : MachX w S K p m F B C L D fs bs) {i j : Nat} (hi : i < (ptr p :: F :: B :: C :: L :: D :: (fs ++ bs)).length) (hj : j < (ptr p :: F :: B :: C :: L :: D :: (fs ++ bs)).length) (hn : i ≠ j) :
    Off2 (ptr p :: F :: B :: C :: L :: D :: (fs ++ bs))[i] (ptr p :: F :: B :: C :: L :: D :: (fs ++ bs))[j] := pw_get h.ap hi hj hn
theorem off_ptr {v : Value} {p : Nat} (h : Off2 (ptr p) v) : ∀ g, v.ownBlock = some g → g ≠ p := fun _ hg e => h p rfl (e ▸ hg)
/-- no other part lies in the struct's own block -/
theorem MachX.off_p (h : MachX w S K p m F B C L D fs bs) : ∀ v ∈ F :: B :: C :: L :: D :: (fs ++ bs), ∀ g, v.ownBlock = some g → ¬ g = p := fun v hv g hg => off_ptr ((List.pairwise_cons.1 h.ap).1 v hv) g hg
/-- the rack is set -/
theorem MachX.set_rack (h : MachX w S K p m F B C L D fs bs) (r : Int) : MachX (w.setCell ⟨p, 1, none⟩ (.int .i64 r)) S K p { m with rack := r } F B C L D fs bs := by
  have k : Chg (fun b => b = p) w (w.setCell ⟨p, 1, none⟩ (.int .i64 r)) := Chg.setCell (Chg.refl (fun b => b = p) w) (.inl (show p = p from rfl)) _
  have hv := h.off_p
  have ne : ∀ i, i ≠ 1 → (⟨p, 1, none⟩ : Addr) ≠ ⟨p, i, none⟩ := fun i hi e => hi (by injection e with _ e _; exact e.symm)
  obtain ⟨cs, hl⟩ := h.l
  obtain ⟨ds, hds, hdk⟩ := h.d
  exact ⟨h.sp, h.c0.set_other (ne 0 (by omega)), h.c1.set_same, h.c2.set_other (ne 2 (by omega)), h.c3.set_other (ne 3 (by omega)), h.c4.set_other (ne 4 (by omega)), h.c5.set_other (ne 5 (by omega)), h.c6.set_other (ne 6 (by omega)),
    rowKept h.f k (hv F (by simp)), rowKept h.b k (hv B (by simp)), h.fl, h.bl,
    fun i hi => (h.fi i hi).kept k (hv _ (by simp)), fun i hi => (h.bi i hi).kept k (hv _ (by simp)),
    rowKept h.c k (hv C (by simp)), ⟨cs, rowKept hl k (hv L (by simp))⟩, ⟨ds, hds.kept k (hv D (by simp)), hdk⟩, h.own, h.ap, h.ps.turn k (hv L (by simp)) (fun x hx => .inl ⟨ptr p, by simp, by rw [show x = p from hx]; rfl⟩) (fun _ h => h) (fun v hv2 x hx => .inl ⟨v, hv2, hx⟩)⟩
end
end Go.Proofs.Ytplabnjdhkmmkaa
end
section
set_option linter.unusedSimpArgs false
set_option linter.unusedVariables false
namespace Go.Proofs.Ytplabnjdhkmmkaa
open Go.ChangeShapes Go.WideShapes Go.ChangeAt Go.RowKit
section
variable {w w1 : World} {S T : Nat → Prop} {K p : Nat} {m : MachM} {F B C L D : Value} {fs bs : List Value}
structure Parts (p : Nat) (F B C L D : Value) (fs bs : List Value) : Prop where
  p : ∀ v ∈ F :: B :: C :: L :: D :: (fs ++ bs), Off2 (ptr p) v
  f : ∀ v ∈ B :: C :: L :: D :: (fs ++ bs), Off2 F v
  b : ∀ v ∈ C :: L :: D :: (fs ++ bs), Off2 B v
  c : ∀ v ∈ L :: D :: (fs ++ bs), Off2 C v
  l : ∀ v ∈ D :: (fs ++ bs), Off2 L v
  d : ∀ v ∈ fs ++ bs, Off2 D v
  ff : fs.Pairwise Off2
  bb : bs.Pairwise Off2
  fb : ∀ u ∈ fs, ∀ v ∈ bs, Off2 u v
theorem MachX.parts (h : MachX w S K p m F B C L D fs bs) : Parts p F B C L D fs bs := by
  obtain ⟨h1, t1⟩ := List.pairwise_cons.1 h.ap
  obtain ⟨h2, t2⟩ := List.pairwise_cons.1 t1
  obtain ⟨h3, t3⟩ := List.pairwise_cons.1 t2
  obtain ⟨h4, t4⟩ := List.pairwise_cons.1 t3
  obtain ⟨h5, t5⟩ := List.pairwise_cons.1 t4
  obtain ⟨h6, t6⟩ := List.pairwise_cons.1 t5
  obtain ⟨a, b, c⟩ := List.pairwise_append.1 t6
  exact ⟨h1, h2, h3, h4, h5, h6, a, b, c⟩
theorem off_n1 {u v : Value} (h : Off2 u v) : ∀ g, v.ownBlock = some g → ¬ u.ownBlock = some g := fun _ hg hu => h _ hu hg
theorem off_n2 {u v : Value} {gu : Nat} (hu : u.ownBlock = some gu) (h : Off2 u v) : ∀ g, v.ownBlock = some g → ¬ g = gu := fun _ hg e => h gu hu (e ▸ hg)
/-- a needle of the front bed gets other loops -/
theorem MachX.slotF (h : MachX w S K p m F B C L D fs bs) {i : Nat} (hi : i < fs.length) (g1 : Chg (fun b => fs[i].ownBlock = some b) w w1) {v' : Value} {l : List Int} (ho : OwnI w1 0 v' l)
    (hb : ∀ g, v'.ownBlock = some g → fs[i].ownBlock = some g ∨ w.heap.size ≤ g) {gF cF : Nat} (hF : F = .slice (some ⟨gF, 0, none⟩) fs.length cF) :
    MachX (w1.setCell ⟨gF, i, none⟩ v') (fun b => S b ∨ w.heap.size ≤ b) K p { m with fr := m.fr.set i l } F B C L D (fs.set i v') bs := by
  have P := h.parts
  have hmi : fs[i] ∈ fs := List.getElem_mem hi
  have oF : F.ownBlock = some gF := by rw [hF]; rfl
  have k2 : Chg (fun b => b = gF) w1 (w1.setCell ⟨gF, i, none⟩ v') := Chg.setCell (Chg.refl (fun b => b = gF) w1) (.inl (show gF = gF from rfl)) _
  have hgF : gF < w.heap.size := (h.f.lt gF oF).2
  have p1 : ¬ fs[i].ownBlock = some p := fun e => P.p fs[i] (by simp [hmi]) p rfl e
  have p2 : ¬ p = gF := fun e => P.p F (by simp) p rfl (by rw [oF, e])
  have kc : ∀ {j : Nat} {u : Value}, CellU w ⟨p, j, none⟩ u → CellU (w1.setCell ⟨gF, i, none⟩ v') ⟨p, j, none⟩ u := fun hc => (hc.keep g1 p1).keep k2 p2
  have kr : ∀ {e : TypeId} {size n : Nat} {v : Value} {xs : List Value}, w.ownsRow 0 e size v n xs → Off2 fs[i] v → Off2 F v → (w1.setCell ⟨gF, i, none⟩ v').ownsRow 0 e size v n xs := fun hr o1 o2 => rowKept (rowKept hr g1 (off_n1 o1)) k2 (off_n2 oF o2)
  have ki : ∀ {v : Value} {xs : List Int}, OwnI w 0 v xs → Off2 fs[i] v → Off2 F v → OwnI (w1.setCell ⟨gF, i, none⟩ v') 0 v xs := fun hr o1 o2 => (hr.kept g1 (off_n1 o1)).kept k2 (off_n2 oF o2)
  obtain ⟨cs, hl⟩ := h.l
  obtain ⟨ds, hds, hdk⟩ := h.d
  have hfr : w1.ownsRow 0 23 1 F fs.length fs := rowKept h.f g1 (off_n1 (P.f _ (by simp [hmi])).symm)
  refine ⟨.inl h.sp, kc h.c0, kc h.c1, kc h.c2, kc h.c3, kc h.c4, kc h.c5, kc h.c6, ?_, kr h.b (P.b _ (by simp [hmi])).symm (P.f _ (by simp)), by simpa using h.fl, h.bl, ?_, ?_,
    kr h.c (P.c _ (by simp [hmi])).symm (P.f _ (by simp)), ⟨cs, kr hl (P.l _ (by simp [hmi])).symm (P.f _ (by simp))⟩, ⟨ds, ki hds (P.d _ (by simp [hmi])).symm (P.f _ (by simp)), hdk⟩, ?_, ?_, ?_⟩
  · subst hF
    rw [List.length_set]
    exact ownsRow_set hfr v'
  · intro j hj
    have hj' : j < fs.length := by simpa using hj
    have hjm : fs[j] ∈ fs := List.getElem_mem hj'
    by_cases e : i = j
    · subst e
      rw [List.getElem_set_self, List.getD_eq_getElem?_getD, List.getElem?_set_self (by rw [← h.fl]; exact hi)]
      refine ho.kept k2 (fun g hg e2 => ?_)
      rcases hb g hg with h1 | h1
      · exact (P.f _ (by simp [hmi])) gF oF (e2 ▸ h1)
      · omega
    · rw [List.getElem_set_ne e, List.getD_eq_getElem?_getD, List.getElem?_set_ne e, ← List.getD_eq_getElem?_getD]
      exact ki (h.fi j hj') (pw_get P.ff hi hj' e) (P.f _ (by simp [hjm]))
  · intro j hj
    have hjm : bs[j] ∈ bs := List.getElem_mem hj
    exact ki (h.bi j hj) (P.fb _ hmi _ hjm) (P.f _ (by simp [hjm]))
  · intro v hv g hg
    have hv' : v ∈ F :: B :: C :: L :: D :: (fs ++ bs) ∨ v = v' := by
      simp only [List.mem_cons, List.mem_append] at hv ⊢
      rcases hv with hv | hv | hv | hv | hv | hv | hv
      · simp [hv]
      · simp [hv]
      · simp [hv]
      · simp [hv]
      · simp [hv]
      · rcases List.mem_or_eq_of_mem_set hv with hv | hv
        · simp [hv]
        · simp [hv]
      · simp [hv]
    rcases hv' with hv' | rfl
    · exact .inl (h.own v hv' g hg)
    · rcases hb g hg with h1 | h1
      · exact .inl (h.own _ (by simp [hmi]) g h1)
      · exact .inr h1
  · have := pw_grow h.ap h.all_lt (k := i + 6) (by simp; omega) (v' := v') (fun g hg => by
      have e : (ptr p :: F :: B :: C :: L :: D :: (fs ++ bs))[i + 6]'(by simp; omega) = fs[i] := by
        show (fs ++ bs)[i]'(by simp; omega) = fs[i]
        exact List.getElem_append_left hi
      rw [e]
      exact hb g hg)
    have e2 : (ptr p :: F :: B :: C :: L :: D :: (fs ++ bs)).set (i + 6) v' = ptr p :: F :: B :: C :: L :: D :: (fs.set i v' ++ bs) := by
      show ptr p :: F :: B :: C :: L :: D :: ((fs ++ bs).set i v') = _
      rw [List.set_append_left _ _ hi]
    rwa [e2] at this
  · have k3 : Chg (fun b => fs[i].ownBlock = some b ∨ b = gF) w (w1.setCell ⟨gF, i, none⟩ v') := Chg.trans (g1.mono fun _ _ h => .inl h) (k2.mono fun _ _ h => .inr h)
    refine h.ps.turn k3 (fun x hx e => e.elim (off_n1 (P.l _ (by simp [hmi])).symm x hx) (off_n2 oF (P.f _ (by simp)) x hx)) (fun x hx => hx.elim (fun h => .inl ⟨_, by simp [hmi], h⟩) (fun h => .inl ⟨F, by simp, by rw [oF, h]⟩)) (fun _ h => .inl h) (fun v hv x hx => ?_)
    have hv' : v ∈ ptr p :: F :: B :: C :: L :: D :: (fs ++ bs) ∨ v = v' := by
      simp only [List.mem_cons, List.mem_append] at hv ⊢
      rcases hv with hv | hv | hv | hv | hv | hv | hv | hv
      · simp [hv]
      · simp [hv]
      · simp [hv]
      · simp [hv]
      · simp [hv]
      · simp [hv]
      · rcases List.mem_or_eq_of_mem_set hv with hv | hv <;> simp [hv]
      · simp [hv]
    rcases hv' with hv' | rfl
    · exact .inl ⟨v, hv', hx⟩
    · rcases hb x hx with h1 | h1
      · exact .inl ⟨_, by simp [hmi], h1⟩
      · exact .inr h1
/-- a needle of the back bed gets other loops -/
theorem MachX.slotB (h : MachX w S K p m F B C L D fs bs) {i : Nat} (hi : i < bs.length) (g1 : Chg (fun b => bs[i].ownBlock = some b) w w1) {v' : Value} {l : List Int} (ho : OwnI w1 0 v' l)
    (hb : ∀ g, v'.ownBlock = some g → bs[i].ownBlock = some g ∨ w.heap.size ≤ g) {gB cB : Nat} (hB : B = .slice (some ⟨gB, 0, none⟩) bs.length cB) :
    MachX (w1.setCell ⟨gB, i, none⟩ v') (fun b => S b ∨ w.heap.size ≤ b) K p { m with bk := m.bk.set i l } F B C L D fs (bs.set i v') := by
  have P := h.parts
  have hmi : bs[i] ∈ bs := List.getElem_mem hi
  have oB : B.ownBlock = some gB := by rw [hB]; rfl
  have k2 : Chg (fun b => b = gB) w1 (w1.setCell ⟨gB, i, none⟩ v') := Chg.setCell (Chg.refl (fun b => b = gB) w1) (.inl (show gB = gB from rfl)) _
  have hgB : gB < w.heap.size := (h.b.lt gB oB).2
  have p1 : ¬ bs[i].ownBlock = some p := fun e => P.p bs[i] (by simp [hmi]) p rfl e
  have p2 : ¬ p = gB := fun e => P.p B (by simp) p rfl (by rw [oB, e])
  have kc : ∀ {j : Nat} {u : Value}, CellU w ⟨p, j, none⟩ u → CellU (w1.setCell ⟨gB, i, none⟩ v') ⟨p, j, none⟩ u := fun hc => (hc.keep g1 p1).keep k2 p2
  have kr : ∀ {e : TypeId} {size n : Nat} {v : Value} {xs : List Value}, w.ownsRow 0 e size v n xs → Off2 bs[i] v → Off2 B v → (w1.setCell ⟨gB, i, none⟩ v').ownsRow 0 e size v n xs := fun hr o1 o2 => rowKept (rowKept hr g1 (off_n1 o1)) k2 (off_n2 oB o2)
  have ki : ∀ {v : Value} {xs : List Int}, OwnI w 0 v xs → Off2 bs[i] v → Off2 B v → OwnI (w1.setCell ⟨gB, i, none⟩ v') 0 v xs := fun hr o1 o2 => (hr.kept g1 (off_n1 o1)).kept k2 (off_n2 oB o2)
  obtain ⟨cs, hl⟩ := h.l
  obtain ⟨ds, hds, hdk⟩ := h.d
  have hbr : w1.ownsRow 0 23 1 B bs.length bs := rowKept h.b g1 (off_n1 (P.b _ (by simp [hmi])).symm)
  refine ⟨.inl h.sp, kc h.c0, kc h.c1, kc h.c2, kc h.c3, kc h.c4, kc h.c5, kc h.c6, kr h.f (P.f _ (by simp [hmi])).symm (P.f _ (by simp)).symm, ?_, h.fl, by simpa using h.bl, ?_, ?_,
    kr h.c (P.c _ (by simp [hmi])).symm (P.b _ (by simp)), ⟨cs, kr hl (P.l _ (by simp [hmi])).symm (P.b _ (by simp))⟩, ⟨ds, ki hds (P.d _ (by simp [hmi])).symm (P.b _ (by simp)), hdk⟩, ?_, ?_, ?_⟩
  · subst hB
    rw [List.length_set]
    exact ownsRow_set hbr v'
  · intro j hj
    have hjm : fs[j] ∈ fs := List.getElem_mem hj
    exact ki (h.fi j hj) (P.fb _ hjm _ hmi).symm (P.b _ (by simp [hjm]))
  · intro j hj
    have hj' : j < bs.length := by simpa using hj
    have hjm : bs[j] ∈ bs := List.getElem_mem hj'
    by_cases e : i = j
    · subst e
      rw [List.getElem_set_self, List.getD_eq_getElem?_getD, List.getElem?_set_self (by rw [← h.bl]; exact hi)]
      refine ho.kept k2 (fun g hg e2 => ?_)
      rcases hb g hg with h1 | h1
      · exact (P.b _ (by simp [hmi])) gB oB (e2 ▸ h1)
      · omega
    · rw [List.getElem_set_ne e, List.getD_eq_getElem?_getD, List.getElem?_set_ne e, ← List.getD_eq_getElem?_getD]
      exact ki (h.bi j hj') (pw_get P.bb hi hj' e) (P.b _ (by simp [hjm]))
  · intro v hv g hg
    have hv' : v ∈ F :: B :: C :: L :: D :: (fs ++ bs) ∨ v = v' := by
      simp only [List.mem_cons, List.mem_append] at hv ⊢
      rcases hv with hv | hv | hv | hv | hv | hv | hv
      · simp [hv]
      · simp [hv]
      · simp [hv]
      · simp [hv]
      · simp [hv]
      · simp [hv]
      · rcases List.mem_or_eq_of_mem_set hv with hv | hv
        · simp [hv]
        · simp [hv]
    rcases hv' with hv' | rfl
    · exact .inl (h.own v hv' g hg)
    · rcases hb g hg with h1 | h1
      · exact .inl (h.own _ (by simp [hmi]) g h1)
      · exact .inr h1
  · have := pw_grow h.ap h.all_lt (k := fs.length + i + 6) (by simp; omega) (v' := v') (fun g hg => by
      have e : (ptr p :: F :: B :: C :: L :: D :: (fs ++ bs))[fs.length + i + 6]'(by simp; omega) = bs[i] := by
        show (fs ++ bs)[fs.length + i]'(by simp; omega) = bs[i]
        rw [List.getElem_append_right (by omega)]
        simp
      rw [e]
      exact hb g hg)
    have e2 : (ptr p :: F :: B :: C :: L :: D :: (fs ++ bs)).set (fs.length + i + 6) v' = ptr p :: F :: B :: C :: L :: D :: (fs ++ bs.set i v') := by
      show ptr p :: F :: B :: C :: L :: D :: ((fs ++ bs).set (fs.length + i) v') = _
      rw [List.set_append_right _ _ (by omega)]
      simp
    rwa [e2] at this
  · have k3 : Chg (fun b => bs[i].ownBlock = some b ∨ b = gB) w (w1.setCell ⟨gB, i, none⟩ v') := Chg.trans (g1.mono fun _ _ h => .inl h) (k2.mono fun _ _ h => .inr h)
    refine h.ps.turn k3 (fun x hx e => e.elim (off_n1 (P.l _ (by simp [hmi])).symm x hx) (off_n2 oB (P.b _ (by simp)) x hx)) (fun x hx => hx.elim (fun h => .inl ⟨_, by simp [hmi], h⟩) (fun h => .inl ⟨B, by simp, by rw [oB, h]⟩)) (fun _ h => .inl h) (fun v hv x hx => ?_)
    have hv' : v ∈ ptr p :: F :: B :: C :: L :: D :: (fs ++ bs) ∨ v = v' := by
      simp only [List.mem_cons, List.mem_append] at hv ⊢
      rcases hv with hv | hv | hv | hv | hv | hv | hv | hv
      · simp [hv]
      · simp [hv]
      · simp [hv]
      · simp [hv]
      · simp [hv]
      · simp [hv]
      · simp [hv]
      · rcases List.mem_or_eq_of_mem_set hv with hv | hv <;> simp [hv]
    rcases hv' with hv' | rfl
    · exact .inl ⟨v, hv', hx⟩
    · rcases hb x hx with h1 | h1
      · exact .inl ⟨_, by simp [hmi], h1⟩
      · exact .inr h1
theorem carCells_in : ∀ (cs : List (Bool × Int)) (i : Nat) (b : Bool), i < cs.length → (carCells cs).set (i * 2) (.bool b) = carCells (cs.set i (b, (cs.getD i (false, 0)).2))
  | [], i, _, h => by simp at h
  | c :: cs, 0, b, _ => rfl
  | c :: cs, i + 1, b, h => by
    have := carCells_in cs i b (by simpa using h)
    show (Value.bool c.1 :: .int .i64 c.2 :: carCells cs).set ((i + 1) * 2) _ = Value.bool c.1 :: .int .i64 c.2 :: carCells (cs.set i _)
    rw [show (i + 1) * 2 = i * 2 + 1 + 1 by omega, List.set_cons_succ, List.set_cons_succ, this]
    rfl
theorem carCells_at : ∀ (cs : List (Bool × Int)) (i : Nat) (x : Int), i < cs.length → (carCells cs).set (i * 2 + 1) (.int .i64 x) = carCells (cs.set i ((cs.getD i (false, 0)).1, x))
  | [], i, _, h => by simp at h
  | c :: cs, 0, b, _ => rfl
  | c :: cs, i + 1, b, h => by
    have := carCells_at cs i b (by simpa using h)
    show (Value.bool c.1 :: .int .i64 c.2 :: carCells cs).set ((i + 1) * 2 + 1) _ = Value.bool c.1 :: .int .i64 c.2 :: carCells (cs.set i _)
    rw [show (i + 1) * 2 + 1 = i * 2 + 1 + 1 + 1 by omega, List.set_cons_succ, List.set_cons_succ, this]
    rfl
theorem carCells_get : ∀ (cs : List (Bool × Int)) (i : Nat), i < cs.length → (carCells cs)[i * 2]? = some (.bool (cs.getD i (false, 0)).1) ∧ (carCells cs)[i * 2 + 1]? = some (.int .i64 (cs.getD i (false, 0)).2)
  | [], i, h => by simp at h
  | c :: cs, 0, _ => ⟨rfl, rfl⟩
  | c :: cs, i + 1, h => by
    have := carCells_get cs i (by simpa using h)
    show (Value.bool c.1 :: .int .i64 c.2 :: carCells cs)[(i + 1) * 2]? = _ ∧ (Value.bool c.1 :: .int .i64 c.2 :: carCells cs)[(i + 1) * 2 + 1]? = _
    rw [show (i + 1) * 2 = i * 2 + 1 + 1 by omega]
    simpa using this
/-- a carrier's cell is set -/
theorem MachX.set_car (h : MachX w S K p m F B C L D fs bs) {gC cC j : Nat} (hC : C = .slice (some ⟨gC, 0, none⟩) m.cs.length cC) (u : Value) {cs' : List (Bool × Int)} (hc : (carCells m.cs).set j u = carCells cs') (hl : cs'.length = m.cs.length) :
    MachX (w.setCell ⟨gC, j, none⟩ u) S K p { m with cs := cs' } F B C L D fs bs := by
  have P := h.parts
  have oC : C.ownBlock = some gC := by rw [hC]; rfl
  have k : Chg (fun b => b = gC) w (w.setCell ⟨gC, j, none⟩ u) := Chg.setCell (Chg.refl (fun b => b = gC) w) (.inl (show gC = gC from rfl)) _
  have hp : ¬ p = gC := fun e => P.p C (by simp) p rfl (by rw [oC, e])
  obtain ⟨cs, hll⟩ := h.l
  obtain ⟨ds, hds, hdk⟩ := h.d
  refine ⟨h.sp, h.c0.keep k hp, h.c1.keep k hp, h.c2.keep k hp, h.c3.keep k hp, h.c4.keep k hp, h.c5.keep k hp, h.c6.keep k hp,
    rowKept h.f k (off_n2 oC (P.f C (by simp)).symm), rowKept h.b k (off_n2 oC (P.b C (by simp)).symm), h.fl, h.bl,
    fun i hi => (h.fi i hi).kept k (off_n2 oC (P.c _ (by simp))), fun i hi => (h.bi i hi).kept k (off_n2 oC (P.c _ (by simp))), ?_,
    ⟨cs, rowKept hll k (off_n2 oC (P.c _ (by simp)))⟩, ⟨ds, hds.kept k (off_n2 oC (P.c _ (by simp))), hdk⟩, h.own, h.ap, h.ps.turn k (off_n2 oC (P.c _ (by simp))) (fun x hx => .inl ⟨C, by simp, by rw [oC]; exact congrArg some hx.symm⟩) (fun _ h => h) (fun v hv2 x hx => .inl ⟨v, hv2, hx⟩)⟩
  have := h.c
  subst hC
  have h2 := ownsRow_set (i := j) this u
  rw [hc] at h2
  show World.ownsRow _ 0 _ 2 _ cs'.length (carCells cs')
  rw [hl]
  exact h2
/-- one loop more -/
theorem MachX.set_loops (h : MachX w S K p m F B C L D fs bs) (g1 : Chg (fun b => L.ownBlock = some b) w w1) {L' : Value} {n : Nat} {cs' : List Value} (ho : w1.ownsRow 0 118 6 L' n cs')
    (hb : ∀ g, L'.ownBlock = some g → L.ownBlock = some g ∨ w.heap.size ≤ g) (hps : ∃ cs0, w.ownsRow 0 118 6 L m.nl cs0 ∧ (∀ i, i < m.nl → InfoR w S (ptr p :: F :: B :: C :: L :: D :: (fs ++ bs)) cs0 i) ∧ ∃ k c b a d A c9 xs P, (cs' = cs0 ++ [.int .i64 k, .int .i64 c, .int .i64 b, .int .i64 a, .int .i64 d, .slice A xs.length c9]) ∧ Ints w1 P (.slice A xs.length c9) xs ∧ xs.length ≤ 4 ∧ ∀ x, P x → w.heap.size ≤ x ∧ x < w1.heap.size ∧ L'.ownBlock ≠ some x) (hn1 : m.nl + 1 = n) :
    MachX (w1.setCell ⟨p, 5, none⟩ L') (fun b => S b ∨ w.heap.size ≤ b) K p { m with nl := n } F B C L' D fs bs := by
  have P := h.parts
  have k2 : Chg (fun b => b = p) w1 (w1.setCell ⟨p, 5, none⟩ L') := Chg.setCell (Chg.refl (fun b => b = p) w1) (.inl (show p = p from rfl)) _
  have p1 : ¬ L.ownBlock = some p := fun e => P.p L (by simp) p rfl e
  have hv := h.off_p
  have ne : ∀ i, i ≠ 5 → (⟨p, 5, none⟩ : Addr) ≠ ⟨p, i, none⟩ := fun i hi e => hi (by injection e with _ e _; exact e.symm)
  have kc : ∀ {j : Nat} {u : Value}, j ≠ 5 → CellU w ⟨p, j, none⟩ u → CellU (w1.setCell ⟨p, 5, none⟩ L') ⟨p, j, none⟩ u := fun hj hc => (hc.keep g1 p1).set_other (ne _ hj)
  have kr : ∀ {e : TypeId} {size n : Nat} {v : Value} {xs : List Value}, w.ownsRow 0 e size v n xs → Off2 L v → (∀ g, v.ownBlock = some g → ¬ g = p) → (w1.setCell ⟨p, 5, none⟩ L').ownsRow 0 e size v n xs := fun hr o1 o2 => rowKept (rowKept hr g1 (off_n1 o1)) k2 o2
  have ki : ∀ {v : Value} {xs : List Int}, OwnI w 0 v xs → Off2 L v → (∀ g, v.ownBlock = some g → ¬ g = p) → OwnI (w1.setCell ⟨p, 5, none⟩ L') 0 v xs := fun hr o1 o2 => (hr.kept g1 (off_n1 o1)).kept k2 o2
  obtain ⟨ds, hds, hdk⟩ := h.d
  have hplt := h.c0.lt
  refine ⟨.inl h.sp, kc (by omega) h.c0, kc (by omega) h.c1, kc (by omega) h.c2, kc (by omega) h.c3, kc (by omega) h.c4, (h.c5.keep g1 p1).set_same, kc (by omega) h.c6,
    kr h.f (P.f _ (by simp)).symm (hv _ (by simp)), kr h.b (P.b _ (by simp)).symm (hv _ (by simp)), h.fl, h.bl,
    fun i hi => ki (h.fi i hi) (P.l _ (by simp)) (hv _ (by simp)), fun i hi => ki (h.bi i hi) (P.l _ (by simp)) (hv _ (by simp)),
    kr h.c (P.c _ (by simp)).symm (hv _ (by simp)), ⟨cs', rowKept ho k2 (fun g hg e => ?_)⟩, ⟨ds, ki hds (P.l _ (by simp)) (hv _ (by simp)), hdk⟩, ?_, ?_, ?_⟩
  · rcases hb g hg with h1 | h1
    · exact p1 (e ▸ h1)
    · have : g = p := e
      have : p < w.heap.size := hplt
      omega
  · intro v hv g hg
    have hv' : v ∈ F :: B :: C :: L :: D :: (fs ++ bs) ∨ v = L' := by
      simp only [List.mem_cons] at hv ⊢
      rcases hv with hv | hv | hv | hv | hv
      · simp [hv]
      · simp [hv]
      · simp [hv]
      · simp [hv]
      · rcases hv with hv | hv
        · simp [hv]
        · exact .inl (.inr (.inr (.inr (.inr (.inr hv)))))
    rcases hv' with hv' | rfl
    · exact .inl (h.own v hv' g hg)
    · rcases hb g hg with h1 | h1
      · exact .inl (h.own _ (by simp) g h1)
      · exact .inr h1
  · exact pw_grow h.ap h.all_lt (k := 4) (by simp) (v' := L') hb
  · obtain ⟨cs0, h1, h2, k, c, b, a, d, A, c9, xs, P9, rfl, hx, hxl, hp⟩ := hps
    have hcl : cs0.length = m.nl * 6 := h1.1
    refine ⟨_, rowKept ho k2 (fun g hg e => ?_), fun i hi => ?_⟩
    · rcases hb g hg with h3 | h3
      · exact p1 (e ▸ h3)
      · have : g = p := e
        have : p < w.heap.size := hplt
        omega
    · have hv9 : ∀ v ∈ ptr p :: F :: B :: C :: L' :: D :: (fs ++ bs), ∀ x, v.ownBlock = some x → (∃ u ∈ ptr p :: F :: B :: C :: L :: D :: (fs ++ bs), u.ownBlock = some x) ∨ w.heap.size ≤ x := fun v hv x hx => by
        have hv' : v ∈ ptr p :: F :: B :: C :: L :: D :: (fs ++ bs) ∨ v = L' := by
          simp only [List.mem_cons, List.mem_append] at hv ⊢
          rcases hv with hv | hv | hv | hv | hv | hv | hv | hv <;> simp [hv]
        rcases hv' with hv' | rfl
        · exact .inl ⟨v, hv', hx⟩
        · rcases hb x hx with h3 | h3
          · exact .inl ⟨L, by simp, h3⟩
          · exact .inr h3
      by_cases e : i < m.nl
      · have h3 := (h2 i e).turn (Chg.trans (g1.mono (T := fun b => L.ownBlock = some b ∨ b = p) fun _ _ h => .inl h) (k2.mono fun _ _ h => .inr h)) (fun x hx => hx.elim (fun h => .inl ⟨L, by simp, h⟩) (fun h => .inl ⟨ptr p, by simp, by rw [show x = p from h]; rfl⟩)) (S' := fun b => S b ∨ w.heap.size ≤ b) (fun _ h => .inl h) hv9
        obtain ⟨k', c', b', a', d', A', n', xs', P', e1, r⟩ := h3
        refine ⟨k', c', b', a', d', A', n', xs', P', ?_, r⟩
        rw [List.drop_append_of_le_length (by omega), List.take_append_of_le_length (by simp; omega)]
        exact e1
      · have hi2 : i < n := hi
        obtain rfl : i = m.nl := by omega
        refine ⟨k, c, b, a, d, A, c9, xs, P9, ?_, hx.keep k2 (fun x _ h3 e2 => ?_), hxl, fun x h3 => ⟨.inr (hp x h3).1, Nat.lt_of_lt_of_le (hp x h3).2.1 k2.size, fun v hv e2 => ?_⟩⟩
        · rw [← hcl, List.drop_left]
          rfl
        · have := (hp x h3).1
          have e2 : x = p := e2
          have : p < w.heap.size := hplt
          omega
        · have hv' : v ∈ ptr p :: F :: B :: C :: L :: D :: (fs ++ bs) ∨ v = L' := by
            simp only [List.mem_cons, List.mem_append] at hv ⊢
            rcases hv with hv | hv | hv | hv | hv | hv | hv | hv <;> simp [hv]
          rcases hv' with hv' | rfl
          · have := h.all_lt v hv' x e2; have := (hp x h3).1; omega
          · exact (hp x h3).2.2 e2
/-- other dropped loops -/
theorem MachX.set_drops (h : MachX w S K p m F B C L D fs bs) (g1 : Chg (fun b => D.ownBlock = some b) w w1) {D' : Value} {ds' : List Int} {K' : Nat} (ho : OwnI w1 0 D' ds') (hk : ds'.length ≤ K')
    (hb : ∀ g, D'.ownBlock = some g → D.ownBlock = some g ∨ w.heap.size ≤ g) :
    MachX (w1.setCell ⟨p, 6, none⟩ D') (fun b => S b ∨ w.heap.size ≤ b) K' p m F B C L D' fs bs := by
  have P := h.parts
  have k2 : Chg (fun b => b = p) w1 (w1.setCell ⟨p, 6, none⟩ D') := Chg.setCell (Chg.refl (fun b => b = p) w1) (.inl (show p = p from rfl)) _
  have p1 : ¬ D.ownBlock = some p := fun e => P.p D (by simp) p rfl e
  have hv := h.off_p
  have ne : ∀ i, i ≠ 6 → (⟨p, 6, none⟩ : Addr) ≠ ⟨p, i, none⟩ := fun i hi e => hi (by injection e with _ e _; exact e.symm)
  have kc : ∀ {j : Nat} {u : Value}, j ≠ 6 → CellU w ⟨p, j, none⟩ u → CellU (w1.setCell ⟨p, 6, none⟩ D') ⟨p, j, none⟩ u := fun hj hc => (hc.keep g1 p1).set_other (ne _ hj)
  have kr : ∀ {e : TypeId} {size n : Nat} {v : Value} {xs : List Value}, w.ownsRow 0 e size v n xs → Off2 D v → (∀ g, v.ownBlock = some g → ¬ g = p) → (w1.setCell ⟨p, 6, none⟩ D').ownsRow 0 e size v n xs := fun hr o1 o2 => rowKept (rowKept hr g1 (off_n1 o1)) k2 o2
  have ki : ∀ {v : Value} {xs : List Int}, OwnI w 0 v xs → Off2 D v → (∀ g, v.ownBlock = some g → ¬ g = p) → OwnI (w1.setCell ⟨p, 6, none⟩ D') 0 v xs := fun hr o1 o2 => (hr.kept g1 (off_n1 o1)).kept k2 o2
  obtain ⟨cs, hl⟩ := h.l
  have hplt := h.c0.lt
  refine ⟨.inl h.sp, kc (by omega) h.c0, kc (by omega) h.c1, kc (by omega) h.c2, kc (by omega) h.c3, kc (by omega) h.c4, kc (by omega) h.c5, (h.c6.keep g1 p1).set_same,
    kr h.f (P.f _ (by simp)).symm (hv _ (by simp)), kr h.b (P.b _ (by simp)).symm (hv _ (by simp)), h.fl, h.bl,
    fun i hi => ki (h.fi i hi) (P.d _ (by simp)) (hv _ (by simp)), fun i hi => ki (h.bi i hi) (P.d _ (by simp)) (hv _ (by simp)),
    kr h.c (P.c _ (by simp)).symm (hv _ (by simp)), ⟨cs, kr hl (P.l _ (by simp)).symm (hv _ (by simp))⟩, ⟨ds', ho.kept k2 (fun g hg e => ?_), hk⟩, ?_, ?_, ?_⟩
  · rcases hb g hg with h1 | h1
    · exact p1 (e ▸ h1)
    · have : g = p := e
      have : p < w.heap.size := hplt
      omega
  · intro v hv g hg
    have hv' : v ∈ F :: B :: C :: L :: D :: (fs ++ bs) ∨ v = D' := by
      simp only [List.mem_cons] at hv ⊢
      rcases hv with hv | hv | hv | hv | hv
      · simp [hv]
      · simp [hv]
      · simp [hv]
      · simp [hv]
      · rcases hv with hv | hv
        · exact .inr hv
        · exact .inl (.inr (.inr (.inr (.inr (.inr hv)))))
    rcases hv' with hv' | rfl
    · exact .inl (h.own v hv' g hg)
    · rcases hb g hg with h1 | h1
      · exact .inl (h.own _ (by simp) g h1)
      · exact .inr h1
  · exact pw_grow h.ap h.all_lt (k := 5) (by simp) (v' := D') hb
  · have k3 : Chg (fun b => D.ownBlock = some b ∨ b = p) w (w1.setCell ⟨p, 6, none⟩ D') := Chg.trans (g1.mono fun _ _ h => .inl h) (k2.mono fun _ _ h => .inr h)
    refine h.ps.turn k3 (fun x hx e => e.elim (off_n1 (P.l _ (by simp)).symm x hx) (hv L (by simp) x hx)) (fun x hx => hx.elim (fun h => .inl ⟨D, by simp, h⟩) (fun h => .inl ⟨ptr p, by simp, by rw [show x = p from h]; rfl⟩)) (fun _ h => .inl h) (fun v hv x hx => ?_)
    have hv' : v ∈ ptr p :: F :: B :: C :: L :: D :: (fs ++ bs) ∨ v = D' := by
      simp only [List.mem_cons, List.mem_append] at hv ⊢
      rcases hv with hv | hv | hv | hv | hv | hv | hv | hv <;> simp [hv]
    rcases hv' with hv' | rfl
    · exact .inl ⟨v, hv', hx⟩
    · rcases hb x hx with h3 | h3
      · exact .inl ⟨D, by simp, h3⟩
      · exact .inr h3
end
end Go.Proofs.Ytplabnjdhkmmkaa
end
section
set_option linter.unusedSimpArgs false
set_option linter.unusedVariables false
namespace Go.Proofs.Ytplabnjdhkmmkaa
open Go.ChangeShapes Go.WideShapes Go.ChangeAt Go.RowKit
/-- what lies on a needle, and where it is kept -/
structure Hold (w : World) (p : Nat) (b a : Int) (g : Nat) (v : Value) (l : List Int) : Prop where
  a0 : 0 ≤ a
  hdr : (b = 2 ∧ ∃ n c : Nat, a < (n : Int) ∧ n ≤ c ∧ c ≤ 9223372036854775807 ∧ CellU w ⟨p, 3, none⟩ (.slice (some ⟨g, 0, none⟩) n c)) ∨ (b = 1 ∧ ∃ n c : Nat, a < (n : Int) ∧ n ≤ c ∧ c ≤ 9223372036854775807 ∧ CellU w ⟨p, 2, none⟩ (.slice (some ⟨g, 0, none⟩) n c))
  cell : CellU w ⟨g, a.toNat, none⟩ v
  own : OwnI w 0 v l
theorem Hold.up {w w' : World} {p : Nat} {b a : Int} {g : Nat} {v : Value} {l : List Int} (h : Hold w p b a g v l) (k : Up w w') : Hold w' p b a g v l :=
  ⟨h.a0, h.hdr.imp (fun ⟨e, n, c, h1, h2, h3, h4⟩ => ⟨e, n, c, h1, h2, h3, h4.up k⟩) (fun ⟨e, n, c, h1, h2, h3, h4⟩ => ⟨e, n, c, h1, h2, h3, h4.up k⟩), h.cell.up k, h.own.up k⟩
theorem MachX.hold {w : World} {S : Nat → Prop} {K p : Nat} {m : MachM} {F B C L D : Value} {fs bs : List Value} (h : MachX w S K p m F B C L D fs bs) (hi : MInv m) {b a : Int} (hn : okN m b a) :
    ∃ g v, Hold w p b a g v (onM m b a) ∧ ((b = 2 ∧ ∃ c, B = .slice (some ⟨g, 0, none⟩) bs.length c ∧ bs.getD a.toNat (.slice none 0 0) = v ∧ a.toNat < bs.length) ∨ (b = 1 ∧ ∃ c, F = .slice (some ⟨g, 0, none⟩) fs.length c ∧ fs.getD a.toNat (.slice none 0 0) = v ∧ a.toNat < fs.length)) := by
  obtain ⟨hb, h0, h1⟩ := hn
  have hbl := hi.bl
  have hfl := hi.fl
  rcases hb with rfl | rfl
  · have hlt : a.toNat < fs.length := by rw [h.fl]; omega
    obtain ⟨g, c, hF, hc1, hc2, hg, hcs⟩ := ownsRow_some h.f (by omega)
    have hfi := h.fi a.toNat hlt
    have hon : onM m 1 a = m.fr.getD a.toNat [] := rfl
    have hcc := hcs a.toNat hlt
    refine ⟨g, fs[a.toNat], ⟨h0, .inr ⟨rfl, fs.length, c, by omega, hc1, by unfold Go.maxLen at hc2; omega, hF ▸ h.c2⟩, hcc, by rw [hon]; exact hfi⟩, .inr ⟨rfl, c, hF, ?_, hlt⟩⟩
    rw [List.getD_eq_getElem?_getD, List.getElem?_eq_getElem hlt, Option.getD_some]
  · have hlt : a.toNat < bs.length := by rw [h.bl]; omega
    obtain ⟨g, c, hB, hc1, hc2, hg, hcs⟩ := ownsRow_some h.b (by omega)
    have hbi := h.bi a.toNat hlt
    have hon : onM m 2 a = m.bk.getD a.toNat [] := rfl
    have hcc := hcs a.toNat hlt
    refine ⟨g, bs[a.toNat], ⟨h0, .inl ⟨rfl, bs.length, c, by omega, hc1, by unfold Go.maxLen at hc2; omega, hB ▸ h.c3⟩, hcc, by rw [hon]; exact hbi⟩, .inl ⟨rfl, c, hB, ?_, hlt⟩⟩
    rw [List.getD_eq_getElem?_getD, List.getElem?_eq_getElem hlt, Option.getD_some]
end Go.Proofs.Ytplabnjdhkmmkaa
end
