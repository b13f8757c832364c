/- Words for memory: slices whose elements take several cells; operations and moves as data. No condition. -/
import Derived.Test.YtjgdcjhmfbefdaaOwn
namespace Go.Proofs.Ytjgdcjhmfbefdaa
open Go.ChangeShapes Go.WideShapes Go.ChangeAt Go.RowKit

def okV : Value → Prop
  | .int .i64 n => I64 n
  | _ => True

/-- A slice of n elements of k cells each, which holds the cells cs; its block is one of S; its cells may be written. -/
def Raw (w : World) (S : Nat → Prop) (k : Nat) (v : Value) (n : Nat) (cs : List Value) : Prop :=
  cs.length = n * k ∧ ∃ A c, v = .slice A n c ∧ n ≤ c ∧ c ≤ 9223372036854775807 ∧ (0 < n → ∃ b o, A = some ⟨b, o, none⟩ ∧ S b ∧ b < w.heap.size ∧
    ∀ t (h : t < cs.length), w.cell? ⟨b, o + t, none⟩ = some cs[t] ∧ w.frozen? ⟨b, o + t, none⟩ = false) ∧ (A = none → c = 0)
section
variable {S T : Nat → Prop} {w w' : World} {k n : Nat} {v : Value} {cs : List Value}
theorem Raw.keep (h : Raw w S k v n cs) (g : Chg T w w') (hd : ∀ b, b < w.heap.size → S b → ¬ T b) : Raw w' S k v n cs := by
  obtain ⟨h0, A, c, hv, h1, h2, h4, h5⟩ := h
  refine ⟨h0, A, c, hv, h1, h2, fun hp => ?_, h5⟩
  obtain ⟨b, o, ha, hs, hb, hc⟩ := h4 hp
  refine ⟨b, o, ha, hs, Nat.lt_of_lt_of_le hb g.size, fun j hj => ?_⟩
  have hn : ¬ T b := hd _ hb hs
  exact ⟨g.cell (hc j hj).1 hn, (g.frozen (hc j hj).1 hn).trans (hc j hj).2⟩
theorem Raw.up (h : Raw w S k v n cs) (g : Up w w') : Raw w' S k v n cs := h.keep g fun _ _ _ h => h
theorem Raw.mono (h : Raw w S k v n cs) (hs : ∀ b, b < w.heap.size → S b → T b) : Raw w T k v n cs := by
  obtain ⟨h0, A, c, hv, h1, h2, h4, h5⟩ := h
  refine ⟨h0, A, c, hv, h1, h2, fun hp => ?_, h5⟩
  obtain ⟨b, o, ha, hb, hl, hc⟩ := h4 hp
  exact ⟨b, o, ha, hs _ hl hb, hl, hc⟩
theorem Raw.shape (h : Raw w S k v n cs) : ∃ A c, v = .slice A n c ∧ n ≤ c ∧ c ≤ 9223372036854775807 ∧ (A = none → c = 0) :=
  let ⟨_, A, c, h1, h2, h3, _, h4⟩ := h; ⟨A, c, h1, h2, h3, h4⟩
theorem Raw.nil (w : World) (S : Nat → Prop) (k c : Nat) (A : Option Addr) (hc : c ≤ 9223372036854775807) (hA : A = none → c = 0 := by simp) : Raw w S k (.slice A 0 c) 0 [] :=
  ⟨by simp, A, c, rfl, by omega, hc, fun h => by omega, hA⟩
/-- a row of one's own -/
theorem Raw.of_own {base : Nat} {e : TypeId} (h : w.ownsRow base e k v n cs) : Raw w (New base w.heap.size) k v n cs := by
  obtain ⟨hl, hr⟩ := h
  rcases hr with ⟨rfl, rfl⟩ | ⟨g, cap, cur, rfl, hg, hh, hnc, hcm, hsz, htake⟩
  · have hn : cs = [] := List.eq_nil_of_length_eq_zero (by simpa using hl)
    subst hn
    exact Raw.nil w _ k 0 none (by omega)
  · have hlt : g < w.heap.size := (Array.getElem?_eq_some_iff.1 hh).1
    refine ⟨hl, _, _, rfl, hnc, hcm, fun hp => ⟨g, 0, rfl, ⟨hg, hlt⟩, hlt, fun j hj => ?_⟩, by simp⟩
    have hc := World.ownsRow.cells (w := w) (base := base) (e := e) (size := k) (v := .slice (some ⟨g, 0, none⟩) n cap) (n := n) (xs := cs)
      ⟨hl, .inr ⟨g, cap, cur, rfl, hg, hh, hnc, hcm, hsz, htake⟩⟩ (g := g) rfl j cs[j] (List.getElem?_eq_getElem hj)
    rw [add_zero] at hc
    rw [Nat.zero_add]
    exact ⟨hc, by simp [World.frozen?, hh]⟩
/-- a block of the call's own, cell by cell -/
theorem Raw.of_cells {g c : Nat} (hS : S g) (hg : g < w.heap.size) (hl : cs.length = n * k) (hc : n ≤ c) (hm : c ≤ 9223372036854775807)
    (h : ∀ t (ht : t < cs.length), w.cell? ⟨g, t, none⟩ = some cs[t] ∧ w.frozen? ⟨g, t, none⟩ = false) : Raw w S k (.slice (some ⟨g, 0, none⟩) n c) n cs :=
  ⟨hl, _, c, rfl, hc, hm, fun _ => ⟨g, 0, rfl, hS, hg, fun t ht => by rw [Nat.zero_add]; exact h t ht⟩, by simp⟩
end

/-- the cells of a list of records -/
theorem flat_length {α : Type} (f : α → List Value) (k : Nat) (hf : ∀ x, (f x).length = k) : ∀ xs : List α, (xs.flatMap f).length = xs.length * k
  | [] => by simp
  | x :: xs => by rw [List.flatMap_cons, List.length_append, hf, flat_length f k hf xs, List.length_cons, Nat.add_mul, Nat.one_mul, Nat.add_comm]
theorem flat_get {α : Type} (f : α → List Value) (k : Nat) (hf : ∀ x, (f x).length = k) : ∀ (xs : List α) (i : Nat) (h : i < xs.length) (j : Nat) (_ : j < k), (xs.flatMap f)[i * k + j]? = (f xs[i])[j]?
  | [], i, h, _, _ => by simp at h
  | x :: xs, 0, _, j, hj => by
    rw [List.flatMap_cons, Nat.zero_mul, Nat.zero_add, List.getElem?_append_left (by rw [hf]; exact hj)]
    rfl
  | x :: xs, i + 1, h, j, hj => by
    have hi : i < xs.length := by simpa using h
    rw [List.flatMap_cons, List.getElem?_append_right (by rw [hf, Nat.add_mul]; omega), hf]
    have e : (i + 1) * k + j - k = i * k + j := by rw [Nat.add_mul]; omega
    rw [e, flat_get f k hf xs i hi j hj]
    rfl
theorem Raw.at_ {α : Type} {f : α → List Value} {S : Nat → Prop} {w : World} {k : Nat} {v : Value} {xs : List α} (hf : ∀ x, (f x).length = k) (h : Raw w S k v xs.length (xs.flatMap f)) {i : Nat} (hi : i < xs.length) :
    ∃ b o c, v = .slice (some ⟨b, o, none⟩) xs.length c ∧ S b ∧ b < w.heap.size ∧ ∀ j u, (f xs[i])[j]? = some u → w.cell? ⟨b, o + i * k + j, none⟩ = some u ∧ w.frozen? ⟨b, o + i * k + j, none⟩ = false := by
  obtain ⟨h0, A, c, hv, h1, h2, h4, _⟩ := h
  obtain ⟨b, o, rfl, hs, hb, hc⟩ := h4 (by omega)
  refine ⟨b, o, c, hv, hs, hb, fun j u hu => ?_⟩
  have hj : j < k := by
    rcases Nat.lt_or_ge j k with h | h
    · exact h
    · rw [List.getElem?_eq_none (by rw [hf]; exact h)] at hu; cases hu
  have hg := flat_get f k hf xs i hi j hj
  rw [hu] at hg
  obtain ⟨hlt, he⟩ := List.getElem?_eq_some_iff.1 hg
  have := hc (i * k + j) hlt
  rw [he] at this
  rwa [← Nat.add_assoc] at this
/-- the cells that bear the marks from q on -/
def markCells (q : Int) (n : Nat) : List Value := (marks q n).map (Value.int .i64)
theorem markCells_length (q : Int) (n : Nat) : (markCells q n).length = n := by simp [markCells, marks_length]
theorem markCells_get (q : Int) (n t : Nat) (h : t < n) : (markCells q n)[t]? = some (.int .i64 (q + t)) := by
  simp [markCells, marks, h]

theorem Chg.setCells {S : Nat → Prop} {a : World} {b : Nat} (hb : S b) : ∀ (vs : List Value) (o : Nat) {w : World}, Chg S a w → Chg S a (w.setCells b o vs)
  | [], _, _, h => h
  | v :: r, o, _, h => Chg.setCells hb r (o + 1) (h.setCell (.inl hb) v)
/-- in the middle of marking: all cells of the row are there; the first ones bear their marks -/
def Marking (w : World) (b o m n j : Nat) (k : Int) : Prop :=
  ∀ t, t < n * m → (∃ u, w.cell? ⟨b, o + t, none⟩ = some u) ∧ w.frozen? ⟨b, o + t, none⟩ = false ∧ (t < j * m → w.cell? ⟨b, o + t, none⟩ = some (.int .i64 (k + t)))
theorem Marking.cell {w : World} {b o m n j : Nat} {k : Int} (h : Marking w b o m n j k) (hj : j < n) (i : Nat) (hi : i < m) :
    ∃ u, w.cell? ⟨b, o + j * m + i, none⟩ = some u ∧ w.frozen? ⟨b, o + j * m + i, none⟩ = false := by
  have hlt : j * m + i < n * m := by
    have : (j + 1) * m ≤ n * m := Nat.mul_le_mul_right m hj
    rw [Nat.add_mul] at this
    omega
  obtain ⟨⟨u, h1⟩, h2, _⟩ := h (j * m + i) hlt
  rw [← Nat.add_assoc] at h1 h2
  exact ⟨u, h1, h2⟩
theorem Marking.next {w : World} {b o m n j : Nat} {k : Int} (h : Marking w b o m n j k) (hj : j < n) {vs : List Value} (hv : vs = (List.range m).map fun i : Nat => Value.int .i64 (k + m * j + i)) :
    Marking (w.setCells b (o + j * m) vs) b o m n (j + 1) k := by
  have hl : vs.length = m := by rw [hv]; simp
  intro t ht
  have hfr := (h t ht).2.1
  refine ⟨?_, by rw [World.frozen?_setCells]; exact hfr, fun hlt => ?_⟩
  · by_cases hin : j * m ≤ t ∧ t < (j + 1) * m
    · rw [Nat.add_mul] at hin
      have := World.cell?_setCells_in b vs (o + j * m) w (fun i hi => by
        obtain ⟨u, hu, _⟩ := h.cell hj i (by omega)
        simp [hu]) (t - j * m) (by omega)
      rw [show o + j * m + (t - j * m) = o + t by omega] at this
      exact ⟨_, this⟩
    · rw [Nat.add_mul] at hin
      rw [World.cell?_setCells_out b vs _ w _ (fun _ _ => by simp only []; omega)]
      exact (h t ht).1
  · by_cases hin : j * m ≤ t
    · rw [Nat.add_mul] at hlt
      have := World.cell?_setCells_in b vs (o + j * m) w (fun i hi => by
        obtain ⟨u, hu, _⟩ := h.cell hj i (by omega)
        simp [hu]) (t - j * m) (by omega)
      rw [show o + j * m + (t - j * m) = o + t by omega] at this
      rw [this]
      subst hv
      simp only [List.getElem_map, List.getElem_range, Option.some.injEq, Value.int.injEq, true_and]
      have hc : (m : Int) * j = ((j * m : Nat) : Int) := by rw [Int.natCast_mul, Int.mul_comm]
      rw [hc]
      omega
    · rw [World.cell?_setCells_out b vs _ w _ (fun _ _ => by simp only []; omega)]
      exact (h t ht).2.2 (by omega)
theorem Marking.done {w : World} {S : Nat → Prop} {b o m n c : Nat} {k : Int} (h : Marking w b o m n n k) (hS : S b) (hb : b < w.heap.size) (hc : n ≤ c) (hm : c ≤ 9223372036854775807) :
    Raw w S m (.slice (some ⟨b, o, none⟩) n c) n (markCells k (n * m)) :=
  ⟨markCells_length _ _, _, c, rfl, hc, hm, fun _ => ⟨b, o, rfl, hS, hb, fun t ht => by
    rw [markCells_length] at ht
    have hg := markCells_get k (n * m) t ht
    obtain ⟨hlt, he⟩ := List.getElem?_eq_some_iff.1 hg
    rw [he]
    exact ⟨(h t ht).2.2 ht, (h t ht).2.1⟩⟩, by simp⟩
theorem Marking.start {w : World} {b o m n : Nat} {cs : List Value} (k : Int) (hl : cs.length = n * m) (h : ∀ t (ht : t < cs.length), w.cell? ⟨b, o + t, none⟩ = some cs[t] ∧ w.frozen? ⟨b, o + t, none⟩ = false) : Marking w b o m n 0 k :=
  fun t ht => ⟨⟨_, (h t (by omega)).1⟩, (h t (by omega)).2, fun h0 => by omega⟩
theorem Raw.mark {w : World} {S : Nat → Prop} {m : Nat} {v : Value} {n : Nat} {k : Int} (h : Raw w S m v n (markCells k (n * m))) {j : Nat} (hj : j < n) :
    ∃ b o c, v = .slice (some ⟨b, o, none⟩) n c ∧ ∀ i, i < m → ∀ x : Int, x = k + m * j + i → w.cell? ⟨b, o + j * m + i, none⟩ = some (.int .i64 x) := by
  obtain ⟨_, A, c, hv, _, _, h4, _⟩ := h
  obtain ⟨b, o, rfl, _, _, hc⟩ := h4 (by omega)
  refine ⟨b, o, c, hv, fun i hi x hx => ?_⟩
  have hlt : j * m + i < n * m := by
    have : (j + 1) * m ≤ n * m := Nat.mul_le_mul_right m hj
    rw [Nat.add_mul] at this
    omega
  have hg := markCells_get k (n * m) _ hlt
  obtain ⟨h1, h2⟩ := List.getElem?_eq_some_iff.1 hg
  have := (hc (j * m + i) h1).1
  rw [h2, ← Nat.add_assoc] at this
  rw [this, hx]
  simp only [Option.some.injEq, Value.int.injEq, true_and, Int.natCast_add, Int.natCast_mul]
  rw [Int.mul_comm (j : Int)]
  omega
theorem heap_new_at {w : World} {o : Obj} {g : Nat} (h : g = w.heap.size) : (w.alloc o).heap[g]? = some o := by
  subst h
  exact heap_alloc_new w o
/-- a block that is known whole -/
theorem Raw.of_block {w : World} {S : Nat → Prop} {k n g c : Nat} {arr : Array Value} {e : TypeId} {cs : List Value} (hh : w.heap[g]? = some (.cells arr e (0, 0))) (ha : arr.toList = cs) (hS : S g) (hl : cs.length = n * k) (hc : n ≤ c) (hm : c ≤ 9223372036854775807) :
    Raw w S k (.slice (some ⟨g, 0, none⟩) n c) n cs := by
  refine Raw.of_cells hS (Array.getElem?_eq_some_iff.1 hh).1 hl hc hm fun t ht => ?_
  subst ha
  have h1 := cell_of_row w g t arr e (0, 0) hh
  refine ⟨by rw [h1]; simp at ht; simp [ht], by simp [World.frozen?, hh]⟩
end Go.Proofs.Ytjgdcjhmfbefdaa
