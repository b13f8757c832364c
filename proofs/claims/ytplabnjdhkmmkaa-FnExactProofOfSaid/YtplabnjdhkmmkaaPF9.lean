/- A list of lists of numbers under construction that may lie anywhere in its block: each list in a block of its own. No condition. Small functions of the normal form. No condition. Two neighbours are weighed. No condition. A normal form under construction: half twists at the beginning and identities at the end are taken out. No condition. -/
import Derived.Test.YtplabnjdhkmmkaaPF5
import Derived.ArgAppend
import Derived.Test.YtplabnjdhkmmkaaPF6
import Derived.Test.YtplabnjdhkmmkaaPF7
import Derived.Test.YtplabnjdhkmmkaaPF8
section
set_option maxRecDepth 100000
set_option linter.unusedSimpArgs false
set_option linter.unusedVariables false
namespace Go.Proofs.Ytplabnjdhkmmkaa
open Go.ChangeShapes Go.WideShapes Go.ChangeAt Go.RowKit
/-- the headers lie in block g from place o on, row i in block q i, all of them from base on and ahead of top -/
structure FR (w : World) (base top g o cap : Nat) (q : Nat → Nat) (rs : List (List Int)) : Prop where
  lc : rs.length ≤ cap
  cm : cap ≤ 9223372036854775807
  bg : base ≤ g
  lt : g < top
  sp : ∀ j, j < cap → (w.cell? ⟨g, o + j, none⟩).isSome = true ∧ w.frozen? ⟨g, o + j, none⟩ = false
  hd : ∀ i (h : i < rs.length), ∃ k, w.cell? ⟨g, o + i, none⟩ = some (.slice (some ⟨q i, 0, none⟩) rs[i].length k) ∧ Ints w (fun b => b = q i) (.slice (some ⟨q i, 0, none⟩) rs[i].length k) rs[i] ∧ rs[i].length ≤ k ∧ k ≤ 9223372036854775807
  qb : ∀ i, i < rs.length → base ≤ q i ∧ q i < top ∧ q i ≠ g
  qi : ∀ i j, i < rs.length → j < rs.length → q i = q j → i = j
section
variable {S : Nat → Prop} {w w' : World} {base top g o cap : Nat} {q : Nat → Nat} {rs rs' : List (List Int)}
theorem FR.turn (h : FR w base top g o cap q rs) (hc : Chg S w w') (hg : ¬ S g) (hl : rs'.length = rs.length)
    (hr : ∀ i (h1 : i < rs.length) (h2 : i < rs'.length), (rs'[i] = rs[i] ∧ ¬ S (q i)) ∨ (rs'[i].length = rs[i].length ∧ ∀ k, Ints w (fun b => b = q i) (.slice (some ⟨q i, 0, none⟩) rs[i].length k) rs[i] → Ints w' (fun b => b = q i) (.slice (some ⟨q i, 0, none⟩) rs'[i].length k) rs'[i])) :
    FR w' base top g o cap q rs' := by
  refine ⟨by rw [hl]; exact h.lc, h.cm, h.bg, h.lt, fun j hj => ?_, fun i hi => ?_, fun i hi => h.qb i (by omega), fun i j hi hj => h.qi i j (by omega) (by omega)⟩
  · obtain ⟨u, hu⟩ := Option.isSome_iff_exists.1 (h.sp j hj).1
    exact ⟨by rw [hc.cell hu hg]; rfl, (hc.frozen hu hg).trans (h.sp j hj).2⟩
  · obtain ⟨k, h1, h2, h3, h4⟩ := h.hd i (by omega)
    rcases hr i (by omega) hi with ⟨e1, e2⟩ | ⟨e1, e2⟩
    · rw [e1]
      exact ⟨k, hc.cell h1 hg, h2.keep hc (fun b _ hb => by subst hb; exact e2), h3, h4⟩
    · refine ⟨k, ?_, e2 k h2, by omega, h4⟩
      rw [e1]
      exact hc.cell h1 hg
theorem FR.keep (h : FR w base top g o cap q rs) (hc : Chg S w w') (hS : ∀ b, base ≤ b → b < top → ¬ S b) : FR w' base top g o cap q rs :=
  h.turn hc (hS g h.bg h.lt) rfl fun i h1 _ => .inl ⟨rfl, hS _ (h.qb i h1).1 (h.qb i h1).2.1⟩
theorem FR.up (h : FR w base top g o cap q rs) (hc : Up w w') : FR w' base top g o cap q rs := h.keep hc fun _ _ _ h => h
theorem FR.more {base' top' : Nat} (h : FR w base top g o cap q rs) (h1 : base' ≤ base) (h2 : top ≤ top') : FR w base' top' g o cap q rs :=
  ⟨h.lc, h.cm, by have := h.bg; omega, by have := h.lt; omega, h.sp, h.hd, fun i hi => by have := h.qb i hi; omega, h.qi⟩
theorem FR.tail {r : List Int} (h : FR w base top g o cap q (r :: rs)) : FR w base top g (o + 1) (cap - 1) (fun i => q (i + 1)) rs := by
  have hlc := h.lc
  simp only [List.length_cons] at hlc
  refine ⟨by omega, by have := h.cm; omega, h.bg, h.lt, fun j hj => ?_, fun i hi => ?_, fun i hi => h.qb (i + 1) (by simpa using hi), fun i j hi hj e => by have := h.qi (i + 1) (j + 1) (by simpa using hi) (by simpa using hj) e; omega⟩
  · have := h.sp (j + 1) (by omega)
    rwa [show o + (j + 1) = o + 1 + j by omega] at this
  · obtain ⟨k, h1, h2⟩ := h.hd (i + 1) (by simpa using hi)
    rw [show o + (i + 1) = o + 1 + i by omega] at h1
    simp only [List.getElem_cons_succ] at h1 h2
    exact ⟨k, h1, h2⟩
theorem FR.take (h : FR w base top g o cap q rs) (n : Nat) : FR w base top g o cap q (rs.take n) := by
  have hlc := h.lc
  refine ⟨by rw [List.length_take]; omega, h.cm, h.bg, h.lt, h.sp, fun i hi => ?_, fun i hi => h.qb i (by rw [List.length_take] at hi; omega), fun i j hi hj e => h.qi i j (by rw [List.length_take] at hi; omega) (by rw [List.length_take] at hj; omega) e⟩
  rw [List.length_take] at hi
  rw [List.getElem_take]
  exact h.hd i (by omega)
/-- another list is put in place i: it lies in a block of its own -/
theorem FR.put (h : FR w base top g o cap q rs) {i : Nat} (hi : i < rs.length) {b k : Nat} {r : List Int} (hb : Ints w (fun x => x = b) (.slice (some ⟨b, 0, none⟩) r.length k) r) (hk : r.length ≤ k ∧ k ≤ 9223372036854775807) (hb1 : base ≤ b) (hb2 : top ≤ b) (top' : Nat) (hb3 : b < top') :
    FR (w.setCell ⟨g, o + i, none⟩ (.slice (some ⟨b, 0, none⟩) r.length k)) base top' g o cap (fun j => if j = i then b else q j) (rs.set i r) := by
  have hlc := h.lc
  have hlt := h.lt
  have hC : Chg (fun x => x = g) w (w.setCell ⟨g, o + i, none⟩ (.slice (some ⟨b, 0, none⟩) r.length k)) := Chg.setCell (Chg.refl (fun x => x = g) w) (p := ⟨g, o + i, none⟩) (.inl (show g = g from rfl)) _
  have hgb : b ≠ g := by omega
  obtain ⟨k0, c0, -⟩ := h.hd i hi
  refine ⟨by rw [List.length_set]; exact hlc, h.cm, h.bg, by omega, fun j hj => ⟨?_, by rw [World.frozen?_setCell]; exact (h.sp j hj).2⟩, fun j hj => ?_, fun j hj => ?_, fun j1 j2 h1 h2 e => ?_⟩
  · obtain ⟨u, hu⟩ := Option.isSome_iff_exists.1 (h.sp j hj).1
    by_cases e : j = i
    · subst e
      rw [World.cell?_setCell_same _ _ _ c0]
      rfl
    · rw [World.cell?_setCell_other _ _ _ _ (fun e2 => e (by injection e2; omega)), hu]
      rfl
  · rw [List.length_set] at hj
    by_cases e : j = i
    · subst e
      simp only [if_true, List.getElem_set_self]
      exact ⟨k, World.cell?_setCell_same _ _ _ c0, hb.keep hC (fun x _ hx e => hgb (by omega)), hk⟩
    · simp only [if_neg e]
      rw [List.getElem_set_ne (by omega)]
      obtain ⟨k1, c1, i1, e1⟩ := h.hd j hj
      exact ⟨k1, (World.cell?_setCell_other _ _ _ _ (fun e2 => e (by injection e2; omega))).trans c1, i1.keep hC (fun x _ hx e => (h.qb j hj).2.2 (by omega)), e1⟩
  · rw [List.length_set] at hj
    show base ≤ (if j = i then b else q j) ∧ (if j = i then b else q j) < top' ∧ (if j = i then b else q j) ≠ g
    have := h.qb j hj
    split <;> omega
  · rw [List.length_set] at h1 h2
    have q1 := h.qb j1 h1
    have q2 := h.qb j2 h2
    by_cases e1 : j1 = i
    · by_cases e2 : j2 = i
      · omega
      · simp only [if_pos e1, if_neg e2] at e; omega
    · by_cases e2 : j2 = i
      · simp only [if_neg e1, if_pos e2] at e; omega
      · simp only [if_neg e1, if_neg e2] at e; exact h.qi j1 j2 h1 h2 e
/-- one list more is written behind the last, where there is room -/
theorem FR.room (h : FR w base top g o cap q rs) (hroom : rs.length + 1 ≤ cap) {b k : Nat} {r : List Int} (hb : Ints w (fun x => x = b) (.slice (some ⟨b, 0, none⟩) r.length k) r) (hk : r.length ≤ k ∧ k ≤ 9223372036854775807) (hb1 : base ≤ b) (hb2 : top ≤ b) (top' : Nat) (hb3 : b < top') :
    FR (w.setCell ⟨g, o + rs.length, none⟩ (.slice (some ⟨b, 0, none⟩) r.length k)) base top' g o cap (fun j => if j = rs.length then b else q j) (rs ++ [r]) := by
  have hlt := h.lt
  have hC : Chg (fun x => x = g) w (w.setCell ⟨g, o + rs.length, none⟩ (.slice (some ⟨b, 0, none⟩) r.length k)) := Chg.setCell (Chg.refl (fun x => x = g) w) (p := ⟨g, o + rs.length, none⟩) (.inl (show g = g from rfl)) _
  have hgb : b ≠ g := by omega
  obtain ⟨u0, c0⟩ := Option.isSome_iff_exists.1 (h.sp rs.length (by omega)).1
  refine ⟨by rw [List.length_append]; exact hroom, h.cm, h.bg, by omega, fun j hj => ⟨?_, by rw [World.frozen?_setCell]; exact (h.sp j hj).2⟩, fun j hj => ?_, fun j hj => ?_, fun j1 j2 h1 h2 e => ?_⟩
  · obtain ⟨u, hu⟩ := Option.isSome_iff_exists.1 (h.sp j hj).1
    by_cases e : j = rs.length
    · subst e
      rw [World.cell?_setCell_same _ _ _ c0]
      rfl
    · rw [World.cell?_setCell_other _ _ _ _ (fun e2 => e (by injection e2; omega)), hu]
      rfl
  · simp only [List.length_append, List.length_cons, List.length_nil] at hj
    by_cases e : j = rs.length
    · subst e
      simp only [if_true, List.getElem_concat_length]
      exact ⟨k, World.cell?_setCell_same _ _ _ c0, hb.keep hC (fun x _ hx e => hgb (by omega)), hk⟩
    · simp only [if_neg e]
      rw [List.getElem_append_left (by omega)]
      obtain ⟨k1, c1, i1, e1⟩ := h.hd j (by omega)
      exact ⟨k1, (World.cell?_setCell_other _ _ _ _ (fun e2 => e (by injection e2; omega))).trans c1, i1.keep hC (fun x _ hx e => (h.qb j (by omega)).2.2 (by omega)), e1⟩
  · simp only [List.length_append, List.length_cons, List.length_nil] at hj
    show base ≤ (if j = rs.length then b else q j) ∧ (if j = rs.length then b else q j) < top' ∧ (if j = rs.length then b else q j) ≠ g
    by_cases e : j = rs.length
    · simp only [if_pos e]; have := h.bg; omega
    · simp only [if_neg e]; have := h.qb j (by omega); omega
  · simp only [List.length_append, List.length_cons, List.length_nil] at h1 h2
    by_cases e1 : j1 = rs.length
    · by_cases e2 : j2 = rs.length
      · omega
      · simp only [if_pos e1, if_neg e2] at e; have q2 := h.qb j2 (by omega); omega
    · by_cases e2 : j2 = rs.length
      · simp only [if_neg e1, if_pos e2] at e; have q1 := h.qb j1 (by omega); omega
      · simp only [if_neg e1, if_neg e2] at e; exact h.qi j1 j2 (by omega) (by omega) e
end
def FRow (w : World) (base top : Nat) (v : Value) (rs : List (List Int)) : Prop :=
  (v = .slice none 0 0 ∧ rs = []) ∨ ∃ g o cap q, v = .slice (some ⟨g, o, none⟩) rs.length cap ∧ FR w base top g o cap q rs
section
variable {S : Nat → Prop} {w w' : World} {base top : Nat} {v : Value} {rs : List (List Int)}
theorem FRow.nil (w : World) (base top : Nat) : FRow w base top (.slice none 0 0) [] := .inl ⟨rfl, rfl⟩
theorem FRow.keep (h : FRow w base top v rs) (hc : Chg S w w') (hS : ∀ b, base ≤ b → b < top → ¬ S b) : FRow w' base top v rs :=
  h.imp id fun ⟨g, o, cap, q, h1, h2⟩ => ⟨g, o, cap, q, h1, h2.keep hc hS⟩
theorem FRow.up (h : FRow w base top v rs) (hc : Up w w') : FRow w' base top v rs := h.keep hc fun _ _ _ h => h
theorem FRow.more {base' top' : Nat} (h : FRow w base top v rs) (h1 : base' ≤ base) (h2 : top ≤ top') : FRow w base' top' v rs :=
  h.imp id fun ⟨g, o, cap, q, k1, k2⟩ => ⟨g, o, cap, q, k1, k2.more h1 h2⟩
theorem FRow.shape (h : FRow w base top v rs) : ∃ A c, v = .slice A rs.length c ∧ rs.length ≤ c ∧ c ≤ 9223372036854775807 ∧ (A = none → c = 0) := by
  rcases h with ⟨rfl, rfl⟩ | ⟨g, o, cap, q, rfl, h⟩
  · exact ⟨none, 0, rfl, by simp, by omega, fun _ => rfl⟩
  · exact ⟨_, cap, rfl, h.lc, h.cm, by simp⟩
/-- read as lists -/
theorem FRow.rd (h : FRow w base top v rs) (M : Nat → Prop) : IntSSV w M (fun b => base ≤ b ∧ b < top) (fun b => base ≤ b ∧ b < top) v rs := by
  rcases h with ⟨rfl, rfl⟩ | ⟨g, o, cap, q, rfl, h⟩
  · exact Nst.nil w _ none 0 (by omega)
  · have hlc := h.lc
    refine Classical.byCases (p := 0 < rs.length) (fun hp => ?_) (fun hp => ?_)
    · have key : ∀ i, ∃ vs : List Value, vs.length = 1 ∧ (∀ hi : i < rs.length, IntsE (fun b => base ≤ b ∧ b < top) w vs rs[i] ∧ ∃ u, vs = [u] ∧ w.cell? ⟨g, o + i, none⟩ = some u) := fun i => by
        by_cases hi : i < rs.length
        · obtain ⟨k, c1, i1, e1, e2⟩ := h.hd i hi
          exact ⟨_, rfl, fun _ => ⟨⟨_, _, rfl, i1.mono (fun b _ hb => by subst hb; exact ⟨(h.qb i hi).1, (h.qb i hi).2.1⟩), e1, e2⟩, _, rfl, c1⟩⟩
        · exact ⟨[.bool true], rfl, fun h => absurd h hi⟩
      obtain ⟨f, hf⟩ := Classical.axiomOfChoice key
      have hget : ∀ i (hi : i < rs.length), (((List.range rs.length).flatMap f).drop (i * 1)).take 1 = f i := fun i hi => by
        have hlen := flat_length f 1 (fun x => (hf x).1) (List.range rs.length)
        refine List.ext_getElem? fun n => ?_
        cases n with
        | zero =>
          rw [List.getElem?_take_of_lt (by omega), List.getElem?_drop]
          have := flat_get f 1 (fun x => (hf x).1) (List.range rs.length) i (by simpa using hi) 0 (by omega)
          simpa using this
        | succ n =>
          rw [List.getElem?_take_eq_none (by omega), List.getElem?_eq_none (by rw [(hf i).1]; omega)]
      have hfl := flat_length f 1 (fun x => (hf x).1) (List.range rs.length)
      rw [List.length_range, Nat.mul_one] at hfl
      refine ⟨(List.range rs.length).flatMap f, ?_, fun i hi => ?_⟩
      · refine ⟨by rw [hfl, Nat.mul_one], ?_⟩
        refine ⟨_, cap, rfl, hlc, h.cm, ?_, by simp⟩
        intro hp
        refine ⟨g, o, rfl, ⟨h.bg, h.lt⟩, ?_, ?_⟩
        · obtain ⟨k, c1, -⟩ := h.hd 0 (by omega)
          exact World.block_lt_of_cell? w _ c1
        · intro j hj
          have hj' : j < rs.length := by omega
          obtain ⟨-, u, hu, c1⟩ := (hf j).2 hj'
          have h3 := hget j hj'
          rw [hu, Nat.mul_one] at h3
          have h4 : ((List.range rs.length).flatMap f)[j] = u := by
            have h5 := congrArg (fun l => l[0]?) h3
            simp only [List.getElem?_take_of_lt (Nat.zero_lt_one), List.getElem?_drop, Nat.add_zero, List.getElem?_cons_zero] at h5
            rw [List.getElem?_eq_getElem hj] at h5
            exact Option.some.inj h5
          rw [h4]
          exact ⟨c1, (h.sp j (by omega)).2⟩
      · rw [hget i hi]
        exact ((hf i).2 hi).1
    · obtain rfl : rs = [] := List.eq_nil_of_length_eq_zero (by omega)
      exact Nst.nil w _ _ cap h.cm
end
theorem FR.heads {w : World} {base top g o cap : Nat} {q : Nat → Nat} {rs : List (List Int)} (h : FR w base top g o cap q rs) : ∃ cs : List Value, cs.length = rs.length ∧ (∀ i (hi : i < rs.length), ∃ k, cs[i]? = some (.slice (some ⟨q i, 0, none⟩) rs[i].length k) ∧ rs[i].length ≤ k ∧ k ≤ 9223372036854775807) ∧ ∀ i u, cs[i]? = some u → w.cell? ⟨g, o + i, none⟩ = some u := by
  refine ⟨(List.range rs.length).map fun i => (w.cell? ⟨g, o + i, none⟩).getD (.bool true), by simp, fun i hi => ?_, fun i u hu => ?_⟩
  · obtain ⟨k, c1, i1, e1, e2⟩ := h.hd i hi
    exact ⟨k, by simp [hi, c1], e1, e2⟩
  · have hi : i < rs.length := by
      by_cases hi : i < rs.length
      · exact hi
      · rw [List.getElem?_eq_none (by simpa using hi)] at hu
        cases hu
    obtain ⟨k, c1, -⟩ := h.hd i hi
    simp [hi, c1] at hu
    rw [c1, hu]
/-- headers that lie in a row of the call's own -/
theorem FR.of_own {w : World} {base top n : Nat} {v' : Value} {cs : List Value} {q : Nat → Nat} {rs : List (List Int)} {lo : Nat} (h : w.ownsRow lo 23 1 v' rs.length cs) (hp : 0 < rs.length) (hlo : base ≤ lo) (hlo2 : top ≤ lo)
    (hd : ∀ i (hi : i < rs.length), ∃ k, cs[i]? = some (.slice (some ⟨q i, 0, none⟩) rs[i].length k) ∧ Ints w (fun b => b = q i) (.slice (some ⟨q i, 0, none⟩) rs[i].length k) rs[i] ∧ rs[i].length ≤ k ∧ k ≤ 9223372036854775807)
    (qb : ∀ i, i < rs.length → base ≤ q i ∧ q i < top) (qi : ∀ i j, i < rs.length → j < rs.length → q i = q j → i = j) : FRow w base w.heap.size v' rs := by
  obtain ⟨hl, hr⟩ := h
  rcases hr with ⟨-, h0⟩ | ⟨g, cap, cur, rfl, hg, hh, hnc, hcm, hsz, htake⟩
  · omega
  · have hlt : g < w.heap.size := (Array.getElem?_eq_some_iff.1 hh).1
    rw [Nat.mul_one] at hsz htake hl
    refine .inr ⟨g, 0, cap, q, rfl, hnc, hcm, by omega, hlt, fun j hj => ⟨?_, by simp [World.frozen?, hh]⟩, fun i hi => ?_, fun i hi => ?_, qi⟩
    · rw [cell_of_row w g (0 + j) cur 23 (0, 0) hh, Array.getElem?_eq_getElem (by omega)]
      rfl
    · obtain ⟨k, c1, r1⟩ := hd i hi
      refine ⟨k, ?_, r1⟩
      rw [cell_of_row w g (0 + i) cur 23 (0, 0) hh, Nat.zero_add, ← Array.getElem?_toList, ← List.getElem?_take_of_lt hi, htake, c1]
    · have := qb i hi
      omega
theorem infoFSl : (Try.prog.info? 23).map (fun i => (i.zero, i.size, i.bytes)) = some (some (.slice none 0 0), 1, 24) := by kernel_rfl
/-- one list more is appended, out of a literal of one element -/
theorem run_append_frow {w : World} {ty : TypeId} (base top : Nat) (v : Value) (rs : List (List Int)) (hown : FRow w base top v rs)
    (gl : Nat) (r : List Int) (b k : Nat) (hc0 : w.cell? ⟨gl, 0, none⟩ = some (.slice (some ⟨b, 0, none⟩) r.length k))
    (hb : Ints w (fun y => y = b) (.slice (some ⟨b, 0, none⟩) r.length k) r) (hk : r.length ≤ k ∧ k ≤ 9223372036854775807) (hb1 : base ≤ b) (hb2 : top ≤ b) (hb3 : b < w.heap.size) (htop : top ≤ w.heap.size) (hlen : rs.length ≤ 1000000) :
    ∃ v' w', (Builtin.append_ #[33, 33] ty #[v, .slice (some ⟨gl, 0, none⟩) 1 1]).run Try.prog w = .ok v' w' ∧ FRow w' base w'.heap.size v' (rs ++ [r]) ∧ Chg (fun y => base ≤ y ∧ y < top) w w' := by
  obtain ⟨i0, hi0, hz0, hz1, hz2⟩ := info_parts infoFSl
  have hcell : ∀ (j : Nat) u, [Value.slice (some ⟨b, 0, none⟩) r.length k][j]? = some u → w.cell? ((⟨gl, 0, none⟩ : Addr).add j) = some u := fun j u hu => by
    cases j with
    | zero => simp only [List.getElem?_cons_zero, Option.some.injEq] at hu; subst hu; rw [add_zero]; exact hc0
    | succ j => simp at hu
  have hone : ∀ u ∈ [Value.slice (some ⟨b, 0, none⟩) r.length k], u.oneCell' = true := fun u hu => by simp at hu; subst hu; rfl
  rcases hown with ⟨rfl, rfl⟩ | ⟨g, o', cap, q, rfl, hF⟩
  · obtain ⟨v', w', hrun, k1, k2, -⟩ := run_append_own (P := Try.prog) w w.heap.size 33 ty 23 i0 _ 1 24 Try.underlying33 hi0 hz0 hz1 hz2 rfl (by decide) (.slice none 0 0) 0 [] (World.ownsRow_nil w _ _ 1) ⟨gl, 0, none⟩ 1 1 [.slice (some ⟨b, 0, none⟩) r.length k] rfl hcell hone (by unfold Go.maxLen; omega) (by omega) (Nat.le_refl _)
    have hC := Chg.of_grown k2
    have hU : Up w w' := hC.mono fun _ _ e => by simp [Value.ownBlock] at e
    have hsz := hU.size
    refine ⟨v', w', hrun, FR.of_own (lo := w.heap.size) (top := b + 1) (n := 0) (q := fun _ => b) (cs := [.slice (some ⟨b, 0, none⟩) r.length k]) (rs := [] ++ [r]) (by simpa using k1) (by simp) (by omega) (by omega) (fun i hi => ?_) (fun i hi => by omega) (fun i j hi hj _ => by simp at hi hj; omega), Chg.of_up hU⟩
    obtain rfl : i = 0 := by simpa using hi
    exact ⟨k, rfl, hb.up hU, hk⟩
  · obtain ⟨cs, hcl, hch, hcc⟩ := hF.heads
    have hlc := hF.lc
    by_cases hr : rs.length + 1 ≤ cap
    · have hsp := hF.sp rs.length (by omega)
      have hj0 : ∀ j, j < [Value.slice (some ⟨b, 0, none⟩) r.length k].length → (w.cell? ⟨g, o' + rs.length * i0.size + j, none⟩).isSome = true ∧ w.frozen? ⟨g, o' + rs.length * i0.size + j, none⟩ = false := fun j hj => by
        obtain rfl : j = 0 := by simpa using hj
        rw [hz1, Nat.mul_one, Nat.add_zero]
        exact hsp
      have hrun := run_append_room_cells (P := Try.prog) w 33 ty 23 i0 Try.underlying33 hi0 g o' rs.length cap ⟨gl, 0, none⟩ 1 1 [.slice (some ⟨b, 0, none⟩) r.length k] (by rw [hz1]; rfl) hcell hone hr (fun j hj => (hj0 j hj).1) (fun j hj => (hj0 j hj).2)
      rw [hz1, Nat.mul_one] at hrun
      have hroom := hF.room hr hb hk hb1 hb2 w.heap.size hb3
      have e : (w.setCells g (o' + rs.length) [.slice (some ⟨b, 0, none⟩) r.length k]) = w.setCell ⟨g, o' + rs.length, none⟩ (.slice (some ⟨b, 0, none⟩) r.length k) := rfl
      rw [e] at hrun
      have hsz : (w.setCell ⟨g, o' + rs.length, none⟩ (.slice (some ⟨b, 0, none⟩) r.length k)).heap.size = w.heap.size := by simp [World.setCell]
      exact ⟨_, _, hrun, .inr ⟨g, o', cap, _, by rw [List.length_append]; rfl, by rw [hsz]; exact hroom⟩, Chg.setCell (Chg.refl (fun y => base ≤ y ∧ y < top) w) (p := ⟨g, o' + rs.length, none⟩) (.inl (show base ≤ g ∧ g < top from ⟨hF.bg, hF.lt⟩)) _⟩
    · obtain ⟨v', w', hrun, k1, k2⟩ := run_append_arg_grows (P := Try.prog) w 33 ty 23 i0 _ 1 24 Try.underlying33 hi0 hz0 hz1 hz2 rfl (by decide) ⟨g, o', none⟩ rs.length cap cs (by omega) (fun j u hj => by rw [Addr.add_lit]; exact hcc j u hj) ⟨gl, 0, none⟩ 1 1 [.slice (some ⟨b, 0, none⟩) r.length k] rfl hcell (by omega) (by unfold Go.maxLen; omega) (by omega)
      have hC := Chg.of_grown k2
      have hU : Up w w' := hC.mono fun _ _ e => by cases e
      have hbg := hF.bg
      have hlt := hF.lt
      refine ⟨v', w', hrun, FR.of_own (lo := w.heap.size) (top := b + 1) (n := 0) (q := fun j => if j = rs.length then b else q j) (cs := cs ++ [.slice (some ⟨b, 0, none⟩) r.length k]) (rs := rs ++ [r]) (by simpa using k1) (by simp) (by omega) (by omega) (fun i hi => ?_) (fun i hi => ?_) (fun i j hi hj e => ?_), Chg.of_up hU⟩
      · simp only [List.length_append, List.length_cons, List.length_nil] at hi
        by_cases e : i = rs.length
        · subst e
          simp only [if_true, List.getElem_concat_length]
          rw [List.getElem?_append_right (by omega)]
          exact ⟨k, by simp [hcl], hb.up hU, hk⟩
        · simp only [if_neg e]
          obtain ⟨k1, c1, e1⟩ := hch i (by omega)
          obtain ⟨k2, c2, i2, -⟩ := hF.hd i (by omega)
          have hkk : k1 = k2 := by
            have := hcc i _ c1
            rw [c2] at this
            simpa using this.symm
          rw [List.getElem_append_left (by omega), List.getElem?_append_left (by omega)]
          refine ⟨k1, c1, ?_, e1⟩
          rw [hkk]
          exact i2.up hU
      · simp only [List.length_append, List.length_cons, List.length_nil] at hi
        show base ≤ (if i = rs.length then b else q i) ∧ (if i = rs.length then b else q i) < b + 1
        by_cases e : i = rs.length
        · simp only [if_pos e]; omega
        · simp only [if_neg e]; have := hF.qb i (by omega); omega
      · simp only [List.length_append, List.length_cons, List.length_nil] at hi hj
        by_cases e1 : i = rs.length
        · by_cases e2 : j = rs.length
          · omega
          · simp only [if_pos e1, if_neg e2] at e; have q2 := hF.qb j (by omega); omega
        · by_cases e2 : j = rs.length
          · simp only [if_neg e1, if_pos e2] at e; have q1 := hF.qb i (by omega); omega
          · simp only [if_neg e1, if_neg e2] at e; exact hF.qi i j (by omega) (by omega) e
/-- the append as one step of a region -/
theorem step_append_frow {w : World} {ops : Array Oper} {o : Oper} {a : Act} {K : Act → World → Prop} {Q : Exit → Act → World → Prop} {E : Prop} (hgd : o.guard = none) (s x : Operand)
    (ho : o.op = .call { callee := .builtin .append, args := #[s, x], argTypes := #[33, 33] })
    (base top : Nat) (v : Value) (rs : List (List Int)) (hs : a.eval s = v) (hown : FRow w base top v rs)
    (gl : Nat) (r : List Int) (b k : Nat) (hx : a.eval x = .slice (some ⟨gl, 0, none⟩) 1 1) (hc0 : w.cell? ⟨gl, 0, none⟩ = some (.slice (some ⟨b, 0, none⟩) r.length k))
    (hb : Ints w (fun y => y = b) (.slice (some ⟨b, 0, none⟩) r.length k) r) (hk : r.length ≤ k ∧ k ≤ 9223372036854775807) (hb1 : base ≤ b) (hb2 : top ≤ b) (hb3 : b < w.heap.size) (htop : top ≤ w.heap.size) (hlen : rs.length ≤ 1000000)
    (h : ∀ v' w', FRow w' base w'.heap.size v' (rs ++ [r]) → Chg (fun y => base ≤ y ∧ y < top) w w' → K (a.put o.dst v') w') :
    if Region.wanted o (yielded ops a.tmps) = true then Oper.wp Try.prog o a w K Q else E := by
  have hw : Region.wanted o (yielded ops a.tmps) = true := by simp [Region.wanted, hgd]
  rw [if_pos hw]
  obtain ⟨v', w', hr, h1, h2⟩ := run_append_frow (ty := o.type) base top v rs hown gl r b k hc0 hb hk hb1 hb2 hb3 htop hlen
  unfold Oper.wp execOp
  simp only [ho, resolve, invoke, builtin, Sem.run_bind, Sem.run_pure, Result.andThen_ok, List.map_toArray, List.map_cons, List.map_nil, hs, hx, hr]
  exact h v' w' h1 h2
end Go.Proofs.Ytplabnjdhkmmkaa
end
section
set_option maxRecDepth 100000
set_option maxHeartbeats 2000000
set_option linter.unusedSimpArgs false
set_option linter.unusedVariables false
namespace Go.Proofs.Ytplabnjdhkmmkaa
open Go.ChangeShapes Go.WideShapes Go.ChangeAt Go.RowKit
theorem PermP.i64 {n : Nat} {p : List Int} (h : PermP n p) (hn : n ≤ 12) : ∀ x ∈ p, I64 x := fun x hx => by
  obtain ⟨j, hj, rfl⟩ := List.getElem_of_mem hx
  have := h.bd j (by have := h.len; omega)
  rw [ix_eq hj] at this
  unfold I64
  omega
theorem ints_at0 {w : World} {S : Nat → Prop} {b k : Nat} {xs : List Int} (h : Ints w S (.slice (some ⟨b, 0, none⟩) xs.length k) xs) {i : Nat} (hi : i < xs.length) : w.cell? ⟨b, i, none⟩ = some (.int .i64 (ix xs i)) ∧ w.frozen? ⟨b, i, none⟩ = false := by
  obtain ⟨b', o', e, -, hc⟩ := ints_ixf h hi
  obtain ⟨rfl, rfl⟩ : b = b' ∧ 0 = o' := by simpa using e
  have := hc i hi
  rwa [Nat.zero_add] at this
theorem flip_any (w : World) (S : Nat → Prop) (v : Value) (p : List Int) {n : Nat} (h : Ints w S v p) (hp : PermP n p) (hn : n ≤ 12) :
    Calls Try.prog 111 #[v] w fun e w' => e = .returned (.slice (some ⟨w.heap.size, 0, none⟩) p.length p.length) ∧ Ints w' (fun b => b = w.heap.size) (.slice (some ⟨w.heap.size, 0, none⟩) p.length p.length) (flipP p) ∧ Up w w' := by
  obtain ⟨A, c, rfl, hlc, hcm, -⟩ := h.shape
  have H := Lib.hid h
  have HP := Lib.hid hp
  have hl12 : p.length ≤ 12 := by have := hp.len; omega
  clear h hp
  obtain ⟨i0, hi, hz0, hz1, hz2⟩ := info_parts info2
  have hmk : ∀ u : World, (Instr.makeSlice 23 (.int .i64 (p.length : Int)) (.int .i64 (p.length : Int))).run Try.prog u = .ok (.slice (some ⟨u.heap.size, 0, none⟩) p.length p.length) (u.alloc (.cells (madeCells #[.int .i64 0] p.length) 2)) := fun u => by
    have h := run_make (P := Try.prog) u 23 2 i0 (.int .i64 0) Try.underlying23 hi hz0 .i64 .i64 (p.length : Int) (p.length : Int) (by omega) (Int.le_refl _) (by rw [hz2]; omega) (by omega)
    simpa [hz1, Value.cells] using h
  go_enter Try.func111, Try.ntmps111
  go_wp2
  have Hi := Lib.hid hmk
  clear hmk hi hz0 hz1 hz2
  have HF := Lib.hid (show ∃ f : Nat → Int, f = (fun t => (p.length : Int) - 1 - ix p (p.length - 1 - t)) from ⟨_, rfl⟩)
  obtain ⟨f, hf⟩ := HF.out
  have HFE := Lib.hid hf
  go_loopw [5, 12] (fun _ i wr => ∃ j : Nat, j ≤ p.length ∧ i = .int .i64 (j : Int) ∧ Hid (Up w wr) ∧ Hid (Ints wr (fun b => b = w.heap.size) (.slice (some ⟨w.heap.size, 0, none⟩) p.length p.length) (fillP f (List.replicate p.length 0) j))) (fun _ i _ => p.length - (intOf i).toNat)
  case atStart => exact ⟨0, by omega, rfl, (Chg.refl _ _).alloc _, Lib.hid (by rw [fillP_zero]; exact Ints.zeros w _ p.length _ (by omega) rfl)⟩
  case round =>
    obtain ⟨j, hj, rfl, hg, hc⟩ := hrel
    by_cases hlt : j < p.length
    rotate_left
    · obtain rfl : j = p.length := by omega
      have HE := Lib.hid (show fillP f (List.replicate p.length 0) p.length = flipP p from by have h1 := fillP_all f (List.replicate p.length 0); rw [List.length_replicate] at h1; rw [h1, HFE.out]; first | rfl | exact by rw [List.length_replicate]; rfl)
      have htd : decide ((p.length : Int) < (p.length : Int)) = false := decide_eq_false (by omega)
      go_wp2
      go_ret
      exact ⟨rfl, by rw [← HE.out]; exact hc.out, hg.out⟩
    have hlen : (fillP f (List.replicate p.length 0) j).length = p.length := by rw [fillP_length, List.length_replicate]
    have hI2 : Ints wr (fun b => b = w.heap.size) (.slice (some ⟨w.heap.size, 0, none⟩) (fillP f (List.replicate p.length 0) j).length p.length) (fillP f (List.replicate p.length 0) j) := by rw [hlen]; exact hc.out
    have n0 := ints_at0 hI2 (i := j) (by omega)
    obtain ⟨f0, q0⟩ := n0
    obtain ⟨b1, o1, rfl, -, hc1⟩ := ints_ixf (H.out.up hg.out) (i := p.length - 1 - j) (by omega)
    have f1 := (hc1 (p.length - 1 - j) (by omega)).1
    have hbd := HP.out.bd (p.length - 1 - j) (by have := HP.out.len; omega)
    rw [← HP.out.len] at hbd
    obtain ⟨x, hx⟩ : ∃ x, x = ix p (p.length - 1 - j) := ⟨_, rfl⟩
    rw [← hx] at f1 hbd
    obtain ⟨y, hy⟩ : ∃ y, y = (p.length : Int) - 1 - x := ⟨_, rfl⟩
    have HY := Lib.hid (show f j = y by rw [HFE.out, hy, hx])
    have HYI := Lib.hid (show I64 y by unfold I64; omega)
    have w1 : IntKind.i64.wrap ((p.length : Int) - 1) = ((p.length - 1 : Nat) : Int) := by rw [show ((p.length : Int) - 1) = ((p.length - 1 : Nat) : Int) by omega]; exact IntWalk.i64_in _ (by omega)
    have w2 : IntKind.i64.wrap (((p.length - 1 : Nat) : Int) - (j : Int)) = ((p.length - 1 - j : Nat) : Int) := by rw [show (((p.length - 1 : Nat) : Int) - (j : Int)) = ((p.length - 1 - j : Nat) : Int) by omega]; exact IntWalk.i64_in _ (by omega)
    have w3 : IntKind.i64.wrap (((p.length - 1 : Nat) : Int) - x) = y := by rw [show ((p.length - 1 : Nat) : Int) - x = y by omega]; exact IntWalk.i64_in _ (by omega)
    have k0 : (0 : Int) ≤ ((p.length - 1 - j : Nat) : Int) := by omega
    have k1 : ((p.length - 1 - j : Nat) : Int) < (p.length : Int) := by omega
    clear hc1 hx hy hbd
    have HS := Lib.hid (show Ints (wr.setCell ⟨w.heap.size, j, none⟩ (.int .i64 y)) (fun b => b = w.heap.size) (.slice (some ⟨w.heap.size, 0, none⟩) p.length p.length) (fillP f (List.replicate p.length 0) (j + 1)) from by have h1 := hI2.set (k := j) (by omega) (x := y) HYI.out; rw [hlen, Nat.zero_add] at h1; rw [← fillP_set (by rw [List.length_replicate]; exact hlt), HY.out]; exact h1)
    have htd : decide ((j : Int) < (p.length : Int)) = true := decide_eq_true (by omega)
    have hjl : (j : Int) < (p.length : Int) := by omega
    have hj0 : (0 : Int) ≤ (j : Int) := by omega
    clear hI2 hlen
    go_wp2
    go_roundw
    case rel => exact ⟨j + 1, by omega, by go_num, hg.out.setCell (.inr (Nat.le_refl _)) _, HS⟩
    case measure => first | (simp [intOf]; done) | (simp [intOf]; omega)
theorem l04Flip_any (w : World) (S : Nat → Prop) (v : Value) (p : List Int) {n : Nat} (h : Ints w S v p) (hp : PermP n p) (hn : n ≤ 12) :
    Calls Try.prog 122 #[v] w fun e w' => e = .returned (.slice (some ⟨w.heap.size, 0, none⟩) p.length p.length) ∧ Ints w' (fun b => b = w.heap.size) (.slice (some ⟨w.heap.size, 0, none⟩) p.length p.length) (flipP p) ∧ Up w w' := by
  obtain ⟨A, c, rfl, hlc, hcm, -⟩ := h.shape
  have H := Lib.hid h
  have HP := Lib.hid hp
  have hl12 : p.length ≤ 12 := by have := hp.len; omega
  clear h hp
  obtain ⟨i0, hi, hz0, hz1, hz2⟩ := info_parts info2
  have hmk : ∀ u : World, (Instr.makeSlice 23 (.int .i64 (p.length : Int)) (.int .i64 (p.length : Int))).run Try.prog u = .ok (.slice (some ⟨u.heap.size, 0, none⟩) p.length p.length) (u.alloc (.cells (madeCells #[.int .i64 0] p.length) 2)) := fun u => by
    have h := run_make (P := Try.prog) u 23 2 i0 (.int .i64 0) Try.underlying23 hi hz0 .i64 .i64 (p.length : Int) (p.length : Int) (by omega) (Int.le_refl _) (by rw [hz2]; omega) (by omega)
    simpa [hz1, Value.cells] using h
  go_enter Try.func122, Try.ntmps122
  go_wp2
  have Hi := Lib.hid hmk
  clear hmk hi hz0 hz1 hz2
  have HF := Lib.hid (show ∃ f : Nat → Int, f = (fun t => (p.length : Int) - 1 - ix p (p.length - 1 - t)) from ⟨_, rfl⟩)
  obtain ⟨f, hf⟩ := HF.out
  have HFE := Lib.hid hf
  go_loopw [5] (fun i wr => ∃ j : Nat, j ≤ p.length ∧ i = .int .i64 (j : Int) ∧ Hid (Up w wr) ∧ Hid (Ints wr (fun b => b = w.heap.size) (.slice (some ⟨w.heap.size, 0, none⟩) p.length p.length) (fillP f (List.replicate p.length 0) j))) (fun i _ => p.length - (intOf i).toNat)
  case atStart => exact ⟨0, by omega, rfl, (Chg.refl _ _).alloc _, Lib.hid (by rw [fillP_zero]; exact Ints.zeros w _ p.length _ (by omega) rfl)⟩
  case round =>
    obtain ⟨j, hj, rfl, hg, hc⟩ := hrel
    by_cases hlt : j < p.length
    rotate_left
    · obtain rfl : j = p.length := by omega
      have HE := Lib.hid (show fillP f (List.replicate p.length 0) p.length = flipP p from by have h1 := fillP_all f (List.replicate p.length 0); rw [List.length_replicate] at h1; rw [h1, HFE.out]; first | rfl | exact by rw [List.length_replicate]; rfl)
      have htd : decide ((p.length : Int) < (p.length : Int)) = false := decide_eq_false (by omega)
      go_wp2
      go_ret
      exact ⟨rfl, by rw [← HE.out]; exact hc.out, hg.out⟩
    have hlen : (fillP f (List.replicate p.length 0) j).length = p.length := by rw [fillP_length, List.length_replicate]
    have hI2 : Ints wr (fun b => b = w.heap.size) (.slice (some ⟨w.heap.size, 0, none⟩) (fillP f (List.replicate p.length 0) j).length p.length) (fillP f (List.replicate p.length 0) j) := by rw [hlen]; exact hc.out
    have n0 := ints_at0 hI2 (i := j) (by omega)
    obtain ⟨f0, q0⟩ := n0
    obtain ⟨b1, o1, rfl, -, hc1⟩ := ints_ixf (H.out.up hg.out) (i := p.length - 1 - j) (by omega)
    have f1 := (hc1 (p.length - 1 - j) (by omega)).1
    have hbd := HP.out.bd (p.length - 1 - j) (by have := HP.out.len; omega)
    rw [← HP.out.len] at hbd
    obtain ⟨x, hx⟩ : ∃ x, x = ix p (p.length - 1 - j) := ⟨_, rfl⟩
    rw [← hx] at f1 hbd
    obtain ⟨y, hy⟩ : ∃ y, y = (p.length : Int) - 1 - x := ⟨_, rfl⟩
    have HY := Lib.hid (show f j = y by rw [HFE.out, hy, hx])
    have HYI := Lib.hid (show I64 y by unfold I64; omega)
    have w1 : IntKind.i64.wrap ((p.length : Int) - 1) = ((p.length - 1 : Nat) : Int) := by rw [show ((p.length : Int) - 1) = ((p.length - 1 : Nat) : Int) by omega]; exact IntWalk.i64_in _ (by omega)
    have w2 : IntKind.i64.wrap (((p.length - 1 : Nat) : Int) - (j : Int)) = ((p.length - 1 - j : Nat) : Int) := by rw [show (((p.length - 1 : Nat) : Int) - (j : Int)) = ((p.length - 1 - j : Nat) : Int) by omega]; exact IntWalk.i64_in _ (by omega)
    have w3 : IntKind.i64.wrap (((p.length - 1 : Nat) : Int) - x) = y := by rw [show ((p.length - 1 : Nat) : Int) - x = y by omega]; exact IntWalk.i64_in _ (by omega)
    have k0 : (0 : Int) ≤ ((p.length - 1 - j : Nat) : Int) := by omega
    have k1 : ((p.length - 1 - j : Nat) : Int) < (p.length : Int) := by omega
    clear hc1 hx hy hbd
    have HS := Lib.hid (show Ints (wr.setCell ⟨w.heap.size, j, none⟩ (.int .i64 y)) (fun b => b = w.heap.size) (.slice (some ⟨w.heap.size, 0, none⟩) p.length p.length) (fillP f (List.replicate p.length 0) (j + 1)) from by have h1 := hI2.set (k := j) (by omega) (x := y) HYI.out; rw [hlen, Nat.zero_add] at h1; rw [← fillP_set (by rw [List.length_replicate]; exact hlt), HY.out]; exact h1)
    have htd : decide ((j : Int) < (p.length : Int)) = true := decide_eq_true (by omega)
    have hjl : (j : Int) < (p.length : Int) := by omega
    have hj0 : (0 : Int) ≤ (j : Int) := by omega
    clear hI2 hlen
    go_wp2
    go_roundw
    case rel => exact ⟨j + 1, by omega, by go_num, hg.out.setCell (.inr (Nat.le_refl _)) _, HS⟩
    case measure => first | (simp [intOf]; done) | (simp [intOf]; omega)
theorem compose_any (w : World) (S S2 : Nat → Prop) (v u : Value) (p q : List Int) {n : Nat} (h : Ints w S v p) (h2 : Ints w S2 u q) (hp : PermP n p) (hq : PermP n q) (hn : n ≤ 12) :
    Calls Try.prog 81 #[v, u] w fun e w' => e = .returned (.slice (some ⟨w.heap.size, 0, none⟩) p.length p.length) ∧ Ints w' (fun b => b = w.heap.size) (.slice (some ⟨w.heap.size, 0, none⟩) p.length p.length) (compM p q) ∧ Up w w' := by
  obtain ⟨A, c, rfl, hlc, hcm, -⟩ := h.shape
  obtain ⟨A2, c2, rfl, -, -, -⟩ := h2.shape
  have H := Lib.hid h
  have H2 := Lib.hid h2
  have HP := Lib.hid hp
  have HQ := Lib.hid hq
  have hl12 : p.length ≤ 12 := by have := hp.len; omega
  clear h hp h2 hq
  obtain ⟨i0, hi, hz0, hz1, hz2⟩ := info_parts info2
  have hmk : ∀ u : World, (Instr.makeSlice 23 (.int .i64 (p.length : Int)) (.int .i64 (p.length : Int))).run Try.prog u = .ok (.slice (some ⟨u.heap.size, 0, none⟩) p.length p.length) (u.alloc (.cells (madeCells #[.int .i64 0] p.length) 2)) := fun u => by
    have h := run_make (P := Try.prog) u 23 2 i0 (.int .i64 0) Try.underlying23 hi hz0 .i64 .i64 (p.length : Int) (p.length : Int) (by omega) (Int.le_refl _) (by rw [hz2]; omega) (by omega)
    simpa [hz1, Value.cells] using h
  go_enter Try.func81, Try.ntmps81
  go_wp2
  have Hi := Lib.hid hmk
  clear hmk hi hz0 hz1 hz2
  have HF := Lib.hid (show ∃ f : Nat → Int, f = (fun t => ix q (ix p t).toNat) from ⟨_, rfl⟩)
  obtain ⟨f, hf⟩ := HF.out
  have HFE := Lib.hid hf
  go_loopw [6, 7, 13] (fun _ _ i wr => ∃ j : Nat, j ≤ p.length ∧ i = .int .i64 (j : Int) ∧ Hid (Up w wr) ∧ Hid (Ints wr (fun b => b = w.heap.size) (.slice (some ⟨w.heap.size, 0, none⟩) p.length p.length) (fillP f (List.replicate p.length 0) j))) (fun _ _ i _ => p.length - (intOf i).toNat)
  case atStart => exact ⟨0, by omega, rfl, (Chg.refl _ _).alloc _, Lib.hid (by rw [fillP_zero]; exact Ints.zeros w _ p.length _ (by omega) rfl)⟩
  case round =>
    obtain ⟨j, hj, rfl, hg, hc⟩ := hrel
    by_cases hlt : j < p.length
    rotate_left
    · obtain rfl : j = p.length := by omega
      have HE := Lib.hid (show fillP f (List.replicate p.length 0) p.length = compM p q from by have h1 := fillP_all f (List.replicate p.length 0); rw [List.length_replicate] at h1; rw [h1, HFE.out]; first | rfl | exact fill_comp p q)
      have htd : decide ((p.length : Int) < (p.length : Int)) = false := decide_eq_false (by omega)
      go_wp2
      go_ret
      exact ⟨rfl, by rw [← HE.out]; exact hc.out, hg.out⟩
    have hlen : (fillP f (List.replicate p.length 0) j).length = p.length := by rw [fillP_length, List.length_replicate]
    have hI2 : Ints wr (fun b => b = w.heap.size) (.slice (some ⟨w.heap.size, 0, none⟩) (fillP f (List.replicate p.length 0) j).length p.length) (fillP f (List.replicate p.length 0) j) := by rw [hlen]; exact hc.out
    have n0 := ints_at0 hI2 (i := j) (by omega)
    obtain ⟨f0, q0⟩ := n0
    obtain ⟨b1, o1, rfl, -, hc1⟩ := ints_ixf (H.out.up hg.out) (i := j) (by omega)
    have f1 := (hc1 j (by omega)).1
    have hbd := HP.out.bd j (by have := HP.out.len; omega)
    obtain ⟨x, hx⟩ : ∃ x : Nat, (x : Int) = ix p j := ⟨(ix p j).toNat, by omega⟩
    rw [← hx] at f1 hbd
    have hxq : x < q.length := by have := HQ.out.len; omega
    obtain ⟨b2, o2, rfl, -, hc2⟩ := ints_ixf (H2.out.up hg.out) (i := x) hxq
    have f2 := (hc2 x hxq).1
    obtain ⟨y, hy⟩ : ∃ y, y = ix q x := ⟨_, rfl⟩
    rw [← hy] at f2
    have HY := Lib.hid (show f j = y by rw [HFE.out, hy]; show ix q (ix p j).toNat = _; rw [← hx]; rfl)
    have HYI := Lib.hid (show I64 y by rw [hy, ix_eq hxq]; exact HQ.out.i64 hn _ (List.getElem_mem hxq))
    have x0 : (0 : Int) ≤ (x : Int) := by omega
    have x1 : (x : Int) < (q.length : Int) := by omega
    clear hc1 hc2 hx hy hbd hxq
    have HS := Lib.hid (show Ints (wr.setCell ⟨w.heap.size, j, none⟩ (.int .i64 y)) (fun b => b = w.heap.size) (.slice (some ⟨w.heap.size, 0, none⟩) p.length p.length) (fillP f (List.replicate p.length 0) (j + 1)) from by have h1 := hI2.set (k := j) (by omega) (x := y) HYI.out; rw [hlen, Nat.zero_add] at h1; rw [← fillP_set (by rw [List.length_replicate]; exact hlt), HY.out]; exact h1)
    have htd : decide ((j : Int) < (p.length : Int)) = true := decide_eq_true (by omega)
    have hjl : (j : Int) < (p.length : Int) := by omega
    have hj0 : (0 : Int) ≤ (j : Int) := by omega
    clear hI2 hlen
    go_wp2
    go_roundw
    case rel => exact ⟨j + 1, by omega, by go_num, hg.out.setCell (.inr (Nat.le_refl _)) _, HS⟩
    case measure => first | (simp [intOf]; done) | (simp [intOf]; omega)
theorem letterPerm_any (w : World) (n k : Nat) (hk : 1 ≤ k) (hk2 : k < n) (hn : n ≤ 12) :
    Calls Try.prog 79 #[.int .i64 (n : Int), .int .i64 (k : Int)] w fun e w' => ∃ u, e = .returned u ∧ Ints w' (New w.heap.size w'.heap.size) u (bhM (identM n) k) ∧ Up w w' := by
  go_enter Try.func79, Try.ntmps79
  go_wp2_with fail
  refine (identity_any _ n (by omega)).mono ?_
  rintro e w1 ⟨v, rfl, h1, g1⟩
  have hl := identM_length n
  have hpos : 0 < (identM n).length := by omega
  obtain ⟨b, o, c, rfl, -, hb, -⟩ : ∃ b o c, v = .slice (some ⟨b, o, none⟩) (identM n).length c ∧ True ∧ New w.heap.size w1.heap.size b ∧ True := by
    obtain ⟨A, c, he, -, -, -, hr, -⟩ := h1
    obtain ⟨b, o, hA, hS, -⟩ := hr hpos
    exact ⟨b, o, c, by rw [he, hA], trivial, hS, trivial⟩
  have HI := Lib.hid h1
  have G1 := Lib.hid g1
  have hbn := hb
  obtain ⟨b', o', eA, -, hcc⟩ := ints_ixf h1 (i := k) (by omega)
  obtain ⟨rfl, rfl⟩ : b = b' ∧ o = o' := by simpa using eA
  obtain ⟨f0, q0⟩ := hcc (k - 1) (by omega)
  obtain ⟨f1, q1⟩ := hcc k (by omega)
  have hC : ∀ (w0 : World) (i : Nat) (x : Int), Chg (fun y => y = b) w0 (w0.setCell ⟨b, o + i, none⟩ (.int .i64 x)) := fun w0 i x => Chg.setCell (Chg.refl (fun y => y = b) w0) (p := ⟨b, o + i, none⟩) (.inl (show b = b from rfl)) _
  have S1 := h1.set (k := k - 1) (by omega) (x := (k : Int)) (by unfold I64; omega)
  have hl1 : ((identM n).set (k - 1) (k : Int)).length = (identM n).length := by rw [List.length_set]
  rw [← hl1] at S1
  have S2 := S1.set (k := k) (by rw [hl1]; omega) (x := (k : Int) - 1) (by unfold I64; omega)
  rw [hl1, set_ident hk hk2] at S2
  have HS := Lib.hid S2
  have HC := Lib.hid (show Up w ((w1.setCell ⟨b, o + (k - 1), none⟩ (.int .i64 (k : Int))).setCell ⟨b, o + k, none⟩ (.int .i64 ((k : Int) - 1))) from Chg.new g1 (Chg.trans (hC _ _ _) (hC _ _ _)) (fun i hi e => by have e : i = b := e; have := hbn.1; omega))
  have HBN := Lib.hid hbn
  have wk : IntKind.i64.wrap ((k : Int) - 1) = ((k - 1 : Nat) : Int) := by rw [show ((k : Int) - 1) = ((k - 1 : Nat) : Int) by omega]; exact IntWalk.i64_in _ (by omega)
  have wk2 : (((k - 1 : Nat) : Int)) = (k : Int) - 1 := by omega
  have k0 : (0 : Int) ≤ ((k - 1 : Nat) : Int) := by omega
  have k1 : ((k - 1 : Nat) : Int) < ((identM n).length : Int) := by omega
  have k2 : (0 : Int) ≤ (k : Int) := by omega
  have k3 : (k : Int) < ((identM n).length : Int) := by omega
  have HWK := Lib.hid wk2
  clear h1 g1 hcc S1 S2 hC hl1 wk2 hl hb hbn hpos
  go_wp2_with fail
  go_ret
  rw [HWK.out]
  exact ⟨_, rfl, HS.out.mono (fun x hx h => ⟨h.1, hx⟩), HC.out⟩
theorem l04Behind_any (w : World) (S : Nat → Prop) (v : Value) (p : List Int) (k : Nat) {n : Nat} (h : Ints w S v p) (hp : PermP n p) (hn : n ≤ 12) (hk : 1 ≤ k) (hk2 : k < n) :
    Calls Try.prog 101 #[v, .int .i64 (k : Int)] w fun e w' => ∃ u, e = .returned u ∧ Ints w' (New w.heap.size w'.heap.size) u (bhM p k) ∧ Up w w' := by
  obtain ⟨A, c, rfl, hlc, hcm, -⟩ := h.shape
  have H := Lib.hid h
  have HP := Lib.hid hp
  have hl12 : p.length ≤ 12 := by have := hp.len; omega
  have hpos : 0 < p.length := by have := hp.len; omega
  have hk3 : k < p.length := by have := hp.len; omega
  clear h hp hk2 hlc hcm
  go_enter Try.func101, Try.ntmps101
  go_wp2_with fail
  refine (l00Own_any _ _ _ p (H.out.up (by repeat (first | exact Chg.refl _ _ | apply Chg.drew | apply Chg.drewN | refine Chg.alloc ?_ _))) (by omega)).mono ?_
  rintro e w1 ⟨v1, rfl, h1, g1⟩
  obtain ⟨b, o, c1, rfl, hb⟩ : ∃ b o c, v1 = .slice (some ⟨b, o, none⟩) p.length c ∧ New w.heap.size w1.heap.size b := by
    obtain ⟨A, c, he, -, -, -, hr, -⟩ := h1
    obtain ⟨b, o, hA, hS, -⟩ := hr hpos
    exact ⟨b, o, c, by rw [he, hA], hS⟩
  have HI := Lib.hid (show Ints w1 (fun x => x = b) (.slice (some ⟨b, o, none⟩) p.length c1) p from by
    obtain ⟨A, c, he, k1, k2, k3, hr, k4⟩ := h1
    obtain ⟨b', o', hA, hS, hbl, hc⟩ := hr hpos
    obtain ⟨rfl, rfl⟩ : some (⟨b, o, none⟩ : Addr) = A ∧ c1 = c := by simpa using he
    exact ⟨_, _, rfl, k1, k2, k3, fun _ => ⟨b', o', hA, by (have : b = b' ∧ o = o' := by simpa using hA); exact this.1.symm, hbl, hc⟩, k4⟩)
  have G1 := Lib.hid g1
  have HBN := Lib.hid hb
  clear h1 g1 hb
  have HF := Lib.hid (show ∃ f : Nat → Int, f = fun t => swI k (ix p t) from ⟨_, rfl⟩)
  obtain ⟨f, hf⟩ := HF.out
  have HFE := Lib.hid hf
  go_wp2
  go_loopw [6] (fun i wr => ∃ j : Nat, j ≤ p.length ∧ i = .int .i64 (j : Int) ∧ Hid (Chg (fun x => x = b) w1 wr) ∧ Hid (Ints wr (fun x => x = b) (.slice (some ⟨b, o, none⟩) p.length c1) (fillP f p j))) (fun i _ => p.length - (intOf i).toNat)
  case atStart => exact ⟨0, by omega, rfl, Lib.hid (Chg.refl _ _), Lib.hid (by rw [fillP_zero]; exact HI.out)⟩
  case round =>
    obtain ⟨j, hj, rfl, hg, hc⟩ := hrel
    have HUP := Lib.hid (show Up w wr from Chg.new G1.out hg.out (fun i hi e => by have e : i = b := e; have := HBN.out.1; omega))
    by_cases hlt : j < p.length
    rotate_left
    · obtain rfl : j = p.length := by omega
      have HE := Lib.hid (show fillP f p p.length = bhM p k from by rw [fillP_all, HFE.out]; exact fill_bh p k)
      have htd : decide ((p.length : Int) < (p.length : Int)) = false := decide_eq_false (by omega)
      go_wp2
      go_ret
      exact ⟨_, rfl, by rw [← HE.out]; exact hc.out.mono (fun x hx e => by subst e; exact ⟨HBN.out.1, hx⟩), HUP.out⟩
    have hlen : (fillP f p j).length = p.length := fillP_length _ _ _
    have hI2 : Ints wr (fun x => x = b) (.slice (some ⟨b, o, none⟩) (fillP f p j).length c1) (fillP f p j) := by rw [hlen]; exact hc.out
    obtain ⟨b', o', eA, -, hcc⟩ := ints_ixf hI2 (i := j) (by omega)
    obtain ⟨rfl, rfl⟩ : b = b' ∧ o = o' := by simpa using eA
    obtain ⟨f0, q0⟩ := hcc j (by omega)
    obtain ⟨b1, o1, rfl, -, hc1⟩ := ints_ixf H.out (i := j) (by omega)
    have f1 := Chg.cell HUP.out (hc1 j (by omega)).1 id
    obtain ⟨x, hx⟩ : ∃ x, x = ix p j := ⟨_, rfl⟩
    have hbd := HP.out.bd j (by have := HP.out.len; omega)
    rw [← HP.out.len] at hbd
    rw [← hx] at f1 hbd
    have HX := Lib.hid hx
    have hbb : b1 < w.heap.size := World.block_lt_of_cell? w _ (hc1 j (by omega)).1
    have hbne : b ≠ b1 := by have := HBN.out.1; omega
    have htd : decide ((j : Int) < (p.length : Int)) = true := decide_eq_true (by omega)
    have hjl : (j : Int) < (p.length : Int) := by omega
    have hj0 : (0 : Int) ≤ (j : Int) := by omega
    have wk : IntKind.i64.wrap ((k : Int) - 1) = ((k - 1 : Nat) : Int) := by rw [show ((k : Int) - 1) = ((k - 1 : Nat) : Int) by omega]; exact IntWalk.i64_in _ (by omega)
    have CS := Lib.hid (fun (y : Int) => (show Chg (fun z => z = b) wr (wr.setCell ⟨b, o + j, none⟩ (.int .i64 y)) from Chg.setCell (Chg.refl (fun z => z = b) wr) (p := ⟨b, o + j, none⟩) (.inl (show b = b from rfl)) _))
    have hS : ∀ y, I64 y → f j = y → Ints (wr.setCell ⟨b, o + j, none⟩ (.int .i64 y)) (fun z => z = b) (.slice (some ⟨b, o, none⟩) p.length c1) (fillP f p (j + 1)) := fun y hy he => by have h1 := hI2.set (k := j) (by omega) (x := y) hy; rw [hlen] at h1; rw [← fillP_set hlt, he]; exact h1
    have HSS := Lib.hid hS
    have HSK := Lib.hid (fun (h : f j = x) => (show fillP f p j = fillP f p (j + 1) from fillP_skip hlt (by rw [h, HX.out])))
    have HFJ := Lib.hid (show f j = swI k x by rw [HFE.out, HX.out])
    clear hI2 hlen hcc hc1 hS hx eA
    by_cases c1 : x = ((k - 1 : Nat) : Int)
    · have e1 : (x == ((k - 1 : Nat) : Int)) = true := by simp [c1]
      have e2 : (x == (k : Int)) = false := by simp; omega
      have HS := Lib.hid (HSS.out (k : Int) (by unfold I64; omega) (by rw [HFJ.out]; exact swI_lo (by omega)))
      have HC := Lib.hid (CS.out (k : Int))
      have f2 : (wr.setCell ⟨b, o + j, none⟩ (.int .i64 (k : Int))).cell? ⟨b1, o1 + j, none⟩ = some (.int .i64 x) := Chg.cell HC.out f1 (fun e => hbne (by have e : b1 = b := e; omega))
      clear c1
      go_wp2
      go_roundw
      case rel => exact ⟨j + 1, by omega, by go_num, Chg.trans hg.out HC.out, HS⟩
      case measure => first | (simp [intOf]; done) | (simp [intOf]; omega)
    by_cases c2 : x = (k : Int)
    · have e1 : (x == ((k - 1 : Nat) : Int)) = false := by simp; omega
      have e2 : (x == (k : Int)) = true := by simp [c2]
      have HS := Lib.hid (HSS.out ((k - 1 : Nat) : Int) (by unfold I64; omega) (by rw [HFJ.out, swI_hi c2]; omega))
      have HC := Lib.hid (CS.out ((k - 1 : Nat) : Int))
      clear c1 c2
      go_wp2
      go_roundw
      case rel => exact ⟨j + 1, by omega, by go_num, Chg.trans hg.out HC.out, HS⟩
      case measure => first | (simp [intOf]; done) | (simp [intOf]; omega)
    have e1 : (x == ((k - 1 : Nat) : Int)) = false := by simp; omega
    have e2 : (x == (k : Int)) = false := by simp; omega
    have HS := Lib.hid (HSK.out (by rw [HFJ.out]; exact swI_ne (by omega) c2))
    clear c1 c2
    go_wp2
    go_roundw
    case rel => exact ⟨j + 1, by omega, by go_num, hg.out, by rw [← HS.out]; exact hc⟩
    case measure => first | (simp [intOf]; done) | (simp [intOf]; omega)
theorem l04BeforeP_any (w : World) (S : Nat → Prop) (v : Value) (q : List Int) (k : Nat) {n : Nat} (h : Ints w S v q) (hq : PermP n q) (hn : n ≤ 12) (hk : 1 ≤ k) (hk2 : k < n) :
    Calls Try.prog 124 #[.int .i64 (k : Int), v] w fun e w' => ∃ u, e = .returned u ∧ Ints w' (New w.heap.size w'.heap.size) u (bfM k q) ∧ Up w w' := by
  obtain ⟨A, c, rfl, hlc, hcm, -⟩ := h.shape
  have H := Lib.hid h
  have HP := Lib.hid hq
  have hl12 : q.length ≤ 12 := by have := hq.len; omega
  have hk3 : k < q.length := by have := hq.len; omega
  have hpos : 0 < q.length := by omega
  clear h hq hk2 hlc hcm
  go_enter Try.func124, Try.ntmps124
  go_wp2_with fail
  refine (l00Own_any _ _ _ q (H.out.up (by repeat (first | exact Chg.refl _ _ | apply Chg.drew | apply Chg.drewN | refine Chg.alloc ?_ _))) (by omega)).mono ?_
  rintro e w1 ⟨v1, rfl, h1, g1⟩
  obtain ⟨b, o, c1, rfl, hb⟩ : ∃ b o c, v1 = .slice (some ⟨b, o, none⟩) q.length c ∧ New w.heap.size w1.heap.size b := by
    obtain ⟨A, c, he, -, -, -, hr, -⟩ := h1
    obtain ⟨b, o, hA, hS, -⟩ := hr hpos
    exact ⟨b, o, c, by rw [he, hA], hS⟩
  obtain ⟨b', o', eA, -, hcc⟩ := ints_ixf h1 (i := k) hk3
  obtain ⟨rfl, rfl⟩ : b = b' ∧ o = o' := by simpa using eA
  obtain ⟨f0, q0⟩ := hcc (k - 1) (by omega)
  obtain ⟨f1, q1⟩ := hcc k (by omega)
  obtain ⟨b1, o1, rfl, -, hc1⟩ := ints_ixf H.out (i := k) hk3
  have d1 := Chg.cell g1 (hc1 k hk3).1 id
  have d0 := Chg.cell g1 (hc1 (k - 1) (by omega)).1 id
  have hbb : b1 < w.heap.size := World.block_lt_of_cell? w _ (hc1 k hk3).1
  have hbne : b ≠ b1 := by have := hb.1; omega
  obtain ⟨x, hx⟩ : ∃ x, x = ix q k := ⟨_, rfl⟩
  obtain ⟨y, hy⟩ : ∃ y, y = ix q (k - 1) := ⟨_, rfl⟩
  have hX : ∀ j, j < q.length → I64 (ix q j) := fun j hj => by have := HP.out.bd j (by have := HP.out.len; omega); unfold I64; omega
  have hC : ∀ (w0 : World) (i : Nat) (x : Int), Chg (fun y => y = b) w0 (w0.setCell ⟨b, o + i, none⟩ (.int .i64 x)) := fun w0 i x => Chg.setCell (Chg.refl (fun y => y = b) w0) (p := ⟨b, o + i, none⟩) (.inl (show b = b from rfl)) _
  have S1 := h1.set (k := k - 1) (by omega) (x := ix q k) (hX k hk3)
  have hl1 : (q.set (k - 1) (ix q k)).length = q.length := by rw [List.length_set]
  rw [← hl1] at S1
  have S2 := S1.set (k := k) (by rw [hl1]; omega) (x := ix q (k - 1)) (hX (k - 1) (by omega))
  rw [hl1, set_bf hk hk3, ← hx, ← hy] at S2
  rw [← hx] at d1
  rw [← hy] at d0
  have HS := Lib.hid S2
  have d2 : (w1.setCell ⟨b, o + (k - 1), none⟩ (.int .i64 x)).cell? ⟨b1, o1 + (k - 1), none⟩ = some (.int .i64 y) := Chg.cell (hC w1 (k - 1) x) d0 (fun e => hbne (by have e : b1 = b := e; omega))
  have HC := Lib.hid (show Up w ((w1.setCell ⟨b, o + (k - 1), none⟩ (.int .i64 x)).setCell ⟨b, o + k, none⟩ (.int .i64 y)) from Chg.new g1 (Chg.trans (hC _ _ _) (hC _ _ _)) (fun i hi e => by have e : i = b := e; have := hb.1; omega))
  have wk : IntKind.i64.wrap ((k : Int) - 1) = ((k - 1 : Nat) : Int) := by rw [show ((k : Int) - 1) = ((k - 1 : Nat) : Int) by omega]; exact IntWalk.i64_in _ (by omega)
  have k0 : (0 : Int) ≤ ((k - 1 : Nat) : Int) := by omega
  have k1 : ((k - 1 : Nat) : Int) < (q.length : Int) := by omega
  have k2 : (0 : Int) ≤ (k : Int) := by omega
  have k3 : (k : Int) < (q.length : Int) := by omega
  clear h1 g1 hcc S1 S2 hC hl1 hb hpos hX hx hy hc1 d0
  go_wp2
  go_ret
  exact ⟨_, rfl, HS.out.mono (fun x hx h => ⟨h.1, hx⟩), HC.out⟩
end Go.Proofs.Ytplabnjdhkmmkaa
end
section
set_option maxRecDepth 100000
set_option maxHeartbeats 4000000
set_option linter.unusedSimpArgs false
set_option linter.unusedVariables false
namespace Go.Proofs.Ytplabnjdhkmmkaa
open Go.ChangeShapes Go.WideShapes Go.ChangeAt Go.RowKit
theorem ints_len {w : World} {S : Nat → Prop} {A : Option Addr} {n k : Nat} {p : List Int} (h : Ints w S (.slice A n k) p) : p.length = n := by
  obtain ⟨A', c', he, -⟩ := h
  injection he with _ e _
  exact e.symm
theorem intsN_at {w : World} {S : Nat → Prop} {b n k : Nat} {p : List Int} (h : Ints w S (.slice (some ⟨b, 0, none⟩) n k) p) {i : Nat} (hi : i < n) : w.cell? ⟨b, i, none⟩ = some (.int .i64 (ix p i)) ∧ w.frozen? ⟨b, i, none⟩ = false := by
  have e := ints_len h
  subst e
  exact ints_at0 h hi
theorem intsN_set {w : World} {S : Nat → Prop} {b n k : Nat} {p : List Int} (h : Ints w S (.slice (some ⟨b, 0, none⟩) n k) p) {i : Nat} (hi : i < n) {x : Int} (hx : I64 x) : Ints (w.setCell ⟨b, i, none⟩ (.int .i64 x)) S (.slice (some ⟨b, 0, none⟩) n k) (p.set i x) := by
  have e := ints_len h
  subst e
  have := h.set hi hx
  rwa [Nat.zero_add] at this
theorem intsN_read {w : World} {S : Nat → Prop} {b n k : Nat} {p : List Int} (h : Ints w S (.slice (some ⟨b, 0, none⟩) n k) p) : readI w b n = p := by
  have e := ints_len h
  subst e
  exact h.readI
structure WghTo (n : Nat) (p q p1 q1 : List Int) (m : Bool) : Prop where
  pp : PermP n p1
  pq : PermP n q1
  run : ∀ r, Stps (p :: q :: r) (p1 :: q1 :: r)
  same : m = false → p1 = p ∧ q1 = q
  less : m = true → extraM p q ≠ 0 ∧ invs q1 < invs q
theorem WghTo.next {n k : Nat} {p q p1 q1 : List Int} {m : Bool} (h : WghTo n p q p1 q1 m) (hs : stP k q1) (hn : nfP k p1) (he : extraM p1 q1 ≠ 0) : WghTo n p q (bhM p1 k) (bfM k q1) true := by
  refine ⟨h.pp.nf h.pq hs, h.pq.st hs, fun r => (h.run r).trans (.one (.here k hs hn)), (fun e => by cases e), fun _ => ?_⟩
  have hi := invs_bf hs
  cases hm : m with
  | false => obtain ⟨e1, e2⟩ := h.same hm; subst e1; subst e2; exact ⟨he, by omega⟩
  | true => obtain ⟨e1, e2⟩ := h.less hm; exact ⟨e1, by omega⟩
theorem WghTo.done {n : Nat} {p q p1 q1 : List Int} {m : Bool} (h : WghTo n p q p1 q1 m) (he : extraM p1 q1 = 0) : Wgh n p q p1 q1 ∧ m = decide (extraM p q ≠ 0) := by
  cases hm : m with
  | false =>
    obtain ⟨e1, e2⟩ := h.same hm
    have e3 : extraM p q = 0 := by rw [← e1, ← e2]; exact he
    exact ⟨⟨h.pp, h.pq, he, h.run, fun _ => ⟨e1, e2⟩, fun e => absurd e3 e⟩, by simp [e3]⟩
  | true =>
    obtain ⟨e1, e2⟩ := h.less hm
    exact ⟨⟨h.pp, h.pq, he, h.run, fun e => absurd e e1, fun _ => e2⟩, by simp [e1]⟩
theorem weigh_any (w : World) (n bp bq kp kq : Nat) (p q : List Int) (hp : PermP n p) (hq : PermP n q) (hn : n ≤ 12) (hb : bp ≠ bq) (h1 : Ints w (fun x => x = bp) (.slice (some ⟨bp, 0, none⟩) n kp) p) (h2 : Ints w (fun x => x = bq) (.slice (some ⟨bq, 0, none⟩) n kq) q) :
    Calls Try.prog 114 #[(.slice (some ⟨bp, 0, none⟩) n kp), (.slice (some ⟨bq, 0, none⟩) n kq)] w fun e w' => ∃ p' q', e = .returned (.bool (decide (extraM p q ≠ 0))) ∧ Ints w' (fun x => x = bp) (.slice (some ⟨bp, 0, none⟩) n kp) p' ∧ Ints w' (fun x => x = bq) (.slice (some ⟨bq, 0, none⟩) n kq) q' ∧ Wgh n p q p' q' ∧ Chg (fun x => x = bp ∨ x = bq) w w' := by
  have H1 := Lib.hid h1
  have H2 := Lib.hid h2
  have H0 := Lib.hid (show WghTo n p q p q false from ⟨hp, hq, fun r => .refl _, fun _ => ⟨rfl, rfl⟩, fun e => by cases e⟩)
  clear h1 h2 hp hq
  go_enter Try.func114, Try.ntmps114
  go_wp2
  go_loopw [5] (fun a wr => ∃ (p1 q1 : List Int) (m : Bool), a = .bool m ∧ Hid (Ints wr (fun x => x = bp) (.slice (some ⟨bp, 0, none⟩) n kp) p1) ∧ Hid (Ints wr (fun x => x = bq) (.slice (some ⟨bq, 0, none⟩) n kq) q1) ∧ Hid (WghTo n p q p1 q1 m) ∧ Hid (Chg (fun x => x = bp ∨ x = bq) w wr)) (fun _ wr => invs (readI wr bq n))
  case atStart => exact ⟨p, q, false, rfl, H1, H2, H0, Lib.hid (Chg.refl _ _)⟩
  case round =>
    obtain ⟨p1, q1, m, rfl, hi1, hi2, hw, hg⟩ := hrel
    have hpb := hw.out.pp.permB hn
    have hql := hw.out.pq.len
    have HME := Lib.hid (show invs (readI wr bq n) = invs q1 by rw [intsN_read hi2.out])
    go_wp2_with fail
    refine (missing_any _ _ _ _ _ p1 q1 (hi1.out.up (by repeat (first | exact Chg.refl _ _ | apply Chg.drew | apply Chg.drewN | refine Chg.alloc ?_ _))) (hi2.out.up (by repeat (first | exact Chg.refl _ _ | apply Chg.drew | apply Chg.drewN | refine Chg.alloc ?_ _))) hpb (by omega)).mono ?_
    rintro e w2 ⟨rfl, g2⟩
    have G2 := Lib.hid (show Up wr w2 from Chg.trans (by repeat (first | exact Chg.refl _ _ | apply Chg.drew | apply Chg.drewN | refine Chg.alloc ?_ _)) g2)
    clear g2 hpb
    by_cases hx : extraM p1 q1 = 0
    · rw [hx]
      obtain ⟨d1, d2⟩ := hw.out.done hx
      have HD := Lib.hid d1
      have HD2 := Lib.hid d2
      clear d1 d2
      go_wp2
      go_ret
      exact ⟨p1, q1, by rw [← HD2.out]; rfl, hi1.out.up (Chg.trans G2.out (by repeat (first | exact Chg.refl _ _ | apply Chg.drew | apply Chg.drewN | refine Chg.alloc ?_ _))), hi2.out.up (Chg.trans G2.out (by repeat (first | exact Chg.refl _ _ | apply Chg.drew | apply Chg.drewN | refine Chg.alloc ?_ _))), HD.out, Chg.trans hg.out (Chg.of_up (Chg.trans G2.out (by repeat (first | exact Chg.refl _ _ | apply Chg.drew | apply Chg.drewN | refine Chg.alloc ?_ _))))⟩
    obtain ⟨k, hk, hs, hnf⟩ := extra_step hw.out.pp hw.out.pq hx
    have hk1 := hs.1
    have hk2 : k < n := by have := hs.2.1; omega
    have HWN := Lib.hid (hw.out.next hs hnf hx)
    have HIS := Lib.hid (invs_bf hs)
    rw [hk]
    have hk0 : ((k : Int) == 0) = false := by simp; omega
    have HIB := Lib.hid hw.out.pp
    have HQ1 := Lib.hid hw.out.pq
    clear hx hk hs hnf hw
    have J1 := Lib.hid (hi1.out.up G2.out)
    have J2 := Lib.hid (hi2.out.up G2.out)
    have JG := Lib.hid (Chg.trans hg.out (Chg.of_up G2.out))
    clear hi1 hi2 hg
    go_wp2
    have HF := Lib.hid (show ∃ f : Nat → Int, f = fun t => swI k (ix p1 t) from ⟨_, rfl⟩)
    obtain ⟨f, hf⟩ := HF.out
    have HFE := Lib.hid hf
    clear hf
    have HPL := Lib.hid HIB.out.len
    go_loopw [7, 8, 17, 23, 31] (fun _ _ i _ _ wx => ∃ j : Nat, j ≤ n ∧ i = .int .i64 (j : Int) ∧ Hid (Chg (fun x => x = bp) w2 wx) ∧ Hid (Ints wx (fun x => x = bp) (.slice (some ⟨bp, 0, none⟩) n kp) (fillP f p1 j))) (fun _ _ i _ _ _ => n - (intOf i).toNat)
    case atStart => exact ⟨0, by omega, rfl, Lib.hid (by first | exact Chg.refl _ _ | exact (Chg.refl _ _).drew | exact (Chg.refl _ _).drewN _), Lib.hid (by rw [fillP_zero]; exact J1.out)⟩
    case round =>
      obtain ⟨j, hj, rfl, hgx, hc⟩ := hrel
      by_cases hlt : j < n
      rotate_left
      · obtain rfl : j = n := by omega
        have htd : decide ((j : Int) < (j : Int)) = false := decide_eq_false (by omega)
        have HE := Lib.hid (show fillP f p1 j = bhM p1 k from by have h1 := fillP_all f p1; rw [HPL.out] at h1; rw [h1, HFE.out]; have h2 := fill_bh p1 k; rw [HPL.out] at h2; exact h2)
        have K1 := Lib.hid (show Ints wr (fun x => x = bp) (.slice (some ⟨bp, 0, none⟩) j kp) (bhM p1 k) by rw [← HE.out]; exact hc.out)
        have K2 := Lib.hid (J2.out.keep hgx.out (fun b _ h e => hb (by have e : b = bp := e; have h : b = bq := h; omega)))
        obtain ⟨f0, q0⟩ := intsN_at K2.out (i := k - 1) (by omega)
        obtain ⟨f1, q1z⟩ := intsN_at K2.out (i := k) (by omega)
        obtain ⟨x, hx⟩ : ∃ x, x = ix q1 k := ⟨_, rfl⟩
        obtain ⟨y, hy⟩ : ∃ y, y = ix q1 (k - 1) := ⟨_, rfl⟩
        have hX : ∀ i, i < j → I64 (ix q1 i) := fun i hi => by have := HQ1.out.bd i hi; unfold I64; omega
        have S1 := intsN_set K2.out (i := k - 1) (by omega) (hX k hk2)
        have S2 := intsN_set S1 (i := k) hk2 (hX (k - 1) (by omega))
        rw [set_bf hk1 (by have := HQ1.out.len; omega), ← hx, ← hy] at S2
        rw [← hx] at f1
        rw [← hy] at f0
        have HS := Lib.hid S2
        have hC : ∀ (w0 : World) (i : Nat) (x : Int), Chg (fun y => y = bq) w0 (w0.setCell ⟨bq, i, none⟩ (.int .i64 x)) := fun w0 i x => Chg.setCell (Chg.refl (fun y => y = bq) w0) (p := ⟨bq, i, none⟩) (.inl (show bq = bq from rfl)) _
        have HC := Lib.hid (show Chg (fun y => y = bq) wr ((wr.setCell ⟨bq, k - 1, none⟩ (.int .i64 x)).setCell ⟨bq, k, none⟩ (.int .i64 y)) from Chg.trans (hC _ _ _) (hC _ _ _))
        have wk : IntKind.i64.wrap ((k : Int) - 1) = ((k - 1 : Nat) : Int) := by rw [show ((k : Int) - 1) = ((k - 1 : Nat) : Int) by omega]; exact IntWalk.i64_in _ (by omega)
        have k0 : (0 : Int) ≤ ((k - 1 : Nat) : Int) := by omega
        have k1 : ((k - 1 : Nat) : Int) < (j : Int) := by omega
        have k2 : (0 : Int) ≤ (k : Int) := by omega
        have k3 : (k : Int) < (j : Int) := by omega
        have hnn : ¬ k - 1 = k := by omega
        have hnn2 : ¬ k = k - 1 := by omega
        clear S1 S2 hC hx hy hX
        go_wp2
        go_region
        all_goals go_wp2
        all_goals (go_roundw; (case rel => exact ⟨_, _, true, rfl, Lib.hid (K1.out.keep (Chg.drew HC.out) (fun b _ h e => hb (by have h : b = bp := h; have e : b = bq := e; omega))), Lib.hid (HS.out.up (Chg.drew (Chg.refl _ _))), HWN, Lib.hid (Chg.drew (Chg.trans JG.out (Chg.trans (hgx.out.mono (fun _ _ e => .inl e)) (HC.out.mono (fun _ _ e => .inr e)))))⟩); (case measure => rw [HME.out, show readI _ bq j = _ from intsN_read (HS.out.up (Chg.drew (Chg.refl _ _)))]; have := HIS.out; omega))
      have hlen : (fillP f p1 j).length = n := by rw [fillP_length, HPL.out]
      obtain ⟨f0, q0⟩ := intsN_at hc.out (i := j) hlt
      rw [ix_fillP (by rw [HPL.out]; exact hlt), if_neg (Nat.lt_irrefl j)] at f0
      obtain ⟨x, hx⟩ : ∃ x, x = ix p1 j := ⟨_, rfl⟩
      have hbd := HIB.out.bd j hlt
      rw [← hx] at f0 hbd
      have HX := Lib.hid hx
      have htd : decide ((j : Int) < (n : Int)) = true := decide_eq_true (by omega)
      have hjl : (j : Int) < (n : Int) := by omega
      have hj0 : (0 : Int) ≤ (j : Int) := by omega
      have wk : IntKind.i64.wrap ((k : Int) - 1) = ((k - 1 : Nat) : Int) := by rw [show ((k : Int) - 1) = ((k - 1 : Nat) : Int) by omega]; exact IntWalk.i64_in _ (by omega)
      have HSS := Lib.hid (fun (y : Int) (hy : I64 y) (he : f j = y) => (show Ints (wr.setCell ⟨bp, j, none⟩ (.int .i64 y)) (fun x => x = bp) (.slice (some ⟨bp, 0, none⟩) n kp) (fillP f p1 (j + 1)) from by rw [← fillP_set (by rw [HPL.out]; exact hlt), he]; exact intsN_set hc.out hlt hy))
      have CS := Lib.hid (fun (y : Int) => (show Chg (fun x => x = bp) wr (wr.setCell ⟨bp, j, none⟩ (.int .i64 y)) from Chg.setCell (Chg.refl (fun x => x = bp) wr) (p := ⟨bp, j, none⟩) (.inl (show bp = bp from rfl)) _))
      have HSK := Lib.hid (fun (h : f j = x) => (show fillP f p1 j = fillP f p1 (j + 1) from fillP_skip (by rw [HPL.out]; exact hlt) (by rw [h, HX.out])))
      have HFJ := Lib.hid (show f j = swI k x by rw [HFE.out, HX.out])
      clear hlen hx
      by_cases c1 : x = ((k - 1 : Nat) : Int)
      · have e1 : (x == ((k - 1 : Nat) : Int)) = true := by simp [c1]
        have HS := Lib.hid (HSS.out (k : Int) (by unfold I64; omega) (by rw [HFJ.out]; exact swI_lo (by omega)))
        have HC := Lib.hid (CS.out (k : Int))
        clear c1
        go_wp2
        go_roundw
        case rel => exact ⟨j + 1, by omega, by go_num, Chg.trans hgx.out HC.out, HS⟩
        case measure => first | (simp [intOf]; done) | (simp [intOf]; omega)
      by_cases c2 : x = (k : Int)
      · have e1 : (x == ((k - 1 : Nat) : Int)) = false := by simp; omega
        have e2 : (x == (k : Int)) = true := by simp [c2]
        have HS := Lib.hid (HSS.out ((k - 1 : Nat) : Int) (by unfold I64; omega) (by rw [HFJ.out, swI_hi c2]; omega))
        have HC := Lib.hid (CS.out ((k - 1 : Nat) : Int))
        clear c1 c2
        go_wp2
        go_roundw
        case rel => exact ⟨j + 1, by omega, by go_num, Chg.trans hgx.out HC.out, HS⟩
        case measure => first | (simp [intOf]; done) | (simp [intOf]; omega)
      have e1 : (x == ((k - 1 : Nat) : Int)) = false := by simp; omega
      have e2 : (x == (k : Int)) = false := by simp; omega
      have HS := Lib.hid (HSK.out (by rw [HFJ.out]; exact swI_ne (by omega) c2))
      clear c1 c2
      go_wp2
      go_roundw
      case rel => exact ⟨j + 1, by omega, by go_num, hgx, by rw [← HS.out]; exact hc⟩
      case measure => first | (simp [intOf]; done) | (simp [intOf]; omega)
end Go.Proofs.Ytplabnjdhkmmkaa
end
section
set_option maxRecDepth 100000
set_option maxHeartbeats 4000000
set_option linter.unusedSimpArgs false
set_option linter.unusedVariables false
namespace Go.Proofs.Ytplabnjdhkmmkaa
open Go.ChangeShapes Go.WideShapes Go.ChangeAt Go.RowKit
theorem snocs {n e : Nat} {F : List (List Int)} (hF : ∀ p ∈ F, p ≠ halfM n ∧ p ≠ identM n) : (e = 0 ∧ F = []) ∨ (∃ e', e = e' + 1 ∧ F ++ List.replicate e (identM n) = (F ++ List.replicate e' (identM n)) ++ [identM n]) ∨ (e = 0 ∧ ∃ F' p, F = F' ++ [p] ∧ p ≠ identM n) := by
  cases e with
  | succ e => exact .inr (.inl ⟨e, rfl, by rw [rep_snoc, List.append_assoc]⟩)
  | zero =>
    rcases List.eq_nil_or_concat F with rfl | ⟨F', p, rfl⟩
    · exact .inl ⟨rfl, rfl⟩
    · exact .inr (.inr ⟨rfl, F', p, by simp, (hF p (by simp)).2⟩)
/-- a normal form that a pointer leads to -/
structure NBx (w : World) (bx base top n : Nat) (Q : Int) (L : List (List Int)) (v : Value) : Prop where
  c0 : CellF w ⟨bx, 0, none⟩ (.int .i64 (n : Int))
  c1 : CellF w ⟨bx, 1, none⟩ (.int .i64 Q)
  c2 : CellF w ⟨bx, 2, none⟩ v
  fr : FRow w base top v L
  lt : bx < base
  tp : top ≤ w.heap.size
section
variable {S : Nat → Prop} {w w' : World} {bx base top n : Nat} {Q : Int} {L : List (List Int)} {v : Value}
theorem NBx.up (h : NBx w bx base top n Q L v) (g : Up w w') : NBx w' bx base top n Q L v := ⟨CellF.up g h.c0, CellF.up g h.c1, CellF.up g h.c2, h.fr.up g, h.lt, Nat.le_trans h.tp g.size⟩
theorem CellF.chg {p : Addr} {u : Value} (h : CellF w p u) (g : Chg S w w') (hp : ¬ S p.block) : CellF w' p u := ⟨g.cell h.1 hp, (g.frozen h.1 hp).trans h.2⟩
theorem NBx.keep (h : NBx w bx base top n Q L v) (g : Chg S w w') (h1 : ¬ S bx) (h2 : ∀ b, base ≤ b → b < top → ¬ S b) : NBx w' bx base top n Q L v :=
  ⟨h.c0.chg g h1, h.c1.chg g h1, h.c2.chg g h1, h.fr.keep g h2, h.lt, Nat.le_trans h.tp g.size⟩
theorem box_chg (w : World) (bx i : Nat) (u : Value) : Chg (fun x => x = bx) w (w.setCell ⟨bx, i, none⟩ u) := Chg.setCell (Chg.refl (fun x => x = bx) w) (p := ⟨bx, i, none⟩) (.inl (show bx = bx from rfl)) _
theorem NBx.setP (h : NBx w bx base top n Q L v) (Q' : Int) : NBx (w.setCell ⟨bx, 1, none⟩ (.int .i64 Q')) bx base top n Q' L v := by
  have g := box_chg w bx 1 (.int .i64 Q')
  have hlt := h.lt
  exact ⟨h.c0.set_ne (by intro e; injection e with _ e2; omega), CellF.set h.c1, h.c2.set_ne (by intro e; injection e with _ e2; omega), h.fr.keep g (fun b hb _ e => by have e : b = bx := e; omega), hlt, by have := h.tp; simpa [World.setCell] using this⟩
theorem NBx.setF (h : NBx w bx base top n Q L v) {v' : Value} {L' : List (List Int)} (hf : FRow w base top v' L') : NBx (w.setCell ⟨bx, 2, none⟩ v') bx base top n Q L' v' := by
  have g := box_chg w bx 2 v'
  have hlt := h.lt
  exact ⟨h.c0.set_ne (by intro e; injection e with _ e2; omega), h.c1.set_ne (by intro e; injection e with _ e2; omega), CellF.set h.c2, hf.keep g (fun b hb _ e => by have e : b = bx := e; omega), hlt, by have := h.tp; simpa [World.setCell] using this⟩
theorem FRow.cons {r : List Int} (h : FRow w base top v (r :: L)) : ∃ g o c q k, v = .slice (some ⟨g, o, none⟩) (L.length + 1) c ∧ L.length + 1 ≤ c ∧ c ≤ 9223372036854775807 ∧ w.cell? ⟨g, o, none⟩ = some (.slice (some ⟨q, 0, none⟩) r.length k) ∧ Ints w (fun x => base ≤ x ∧ x < top) (.slice (some ⟨q, 0, none⟩) r.length k) r ∧
    FRow w base top (.slice (if c = 1 then some ⟨g, o, none⟩ else some ⟨g, o + 1, none⟩) L.length (c - 1)) L := by
  rcases h with ⟨-, h⟩ | ⟨g, o, c, q, rfl, h⟩
  · cases h
  · obtain ⟨k, c1, i1, -⟩ := h.hd 0 (by simp)
    have hq := h.qb 0 (by simp)
    refine ⟨g, o, c, q 0, k, rfl, h.lc, h.cm, by simpa using c1, i1.mono (fun b _ e => by subst e; exact ⟨hq.1, hq.2.1⟩), ?_⟩
    have hlc := h.lc
    simp only [List.length_cons] at hlc
    by_cases hc : c = 1
    · subst hc
      obtain rfl : L = [] := List.eq_nil_of_length_eq_zero (by omega)
      rw [if_pos rfl]
      exact .inr ⟨g, o, 0, q, rfl, by simp, by omega, h.bg, h.lt, fun j hj => by omega, fun i hi => by simp at hi, fun i hi => by simp at hi, fun i j hi => by simp at hi⟩
    · rw [if_neg hc]
      exact .inr ⟨g, o + 1, c - 1, _, rfl, h.tail⟩
theorem FRow.snoc {r : List Int} (h : FRow w base top v (L ++ [r])) : ∃ g o c q k, v = .slice (some ⟨g, o, none⟩) (L.length + 1) c ∧ L.length + 1 ≤ c ∧ c ≤ 9223372036854775807 ∧ w.cell? ⟨g, o + L.length, none⟩ = some (.slice (some ⟨q, 0, none⟩) r.length k) ∧ Ints w (fun x => base ≤ x ∧ x < top) (.slice (some ⟨q, 0, none⟩) r.length k) r ∧
    FRow w base top (.slice (some ⟨g, o, none⟩) L.length c) L := by
  rcases h with ⟨-, h⟩ | ⟨g, o, c, q, rfl, h⟩
  · simp at h
  · obtain ⟨k, c1, i1, -⟩ := h.hd L.length (by simp)
    have hq := h.qb L.length (by simp)
    have hlc := h.lc
    simp only [List.length_append, List.length_cons, List.length_nil] at hlc
    simp only [List.getElem_concat_length] at c1 i1
    have ht := h.take L.length
    rw [List.take_left] at ht
    exact ⟨g, o, c, q L.length, k, by simp, by omega, h.cm, c1, i1.mono (fun b _ e => by subst e; exact ⟨hq.1, hq.2.1⟩), .inr ⟨g, o, c, q, rfl, ht⟩⟩
end
/-- what the two loops of tidy leave -/
def dropH (h : List Int) : List (List Int) → List (List Int)
  | [] => []
  | p :: r => if p = h then dropH h r else p :: r
def cntH (h : List Int) : List (List Int) → Nat
  | [] => 0
  | p :: r => if p = h then cntH h r + 1 else 0
theorem dropH_yes {h : List Int} (r : List (List Int)) : dropH h (h :: r) = dropH h r ∧ cntH h (h :: r) = cntH h r + 1 := by simp [dropH, cntH]
theorem dropH_no {h p : List Int} (r : List (List Int)) (hp : p ≠ h) : dropH h (p :: r) = p :: r ∧ cntH h (p :: r) = 0 := by simp [dropH, cntH, hp]
theorem Dec.drops {n : Nat} (hn : 2 ≤ n) {L F : List (List Int)} {c d : Nat} (h : Dec n L c F d) : dropH (halfM n) L = F ++ List.replicate d (identM n) ∧ cntH (halfM n) L = c := by
  have key : ∀ c, dropH (halfM n) (List.replicate c (halfM n) ++ (F ++ List.replicate d (identM n))) = F ++ List.replicate d (identM n) ∧ cntH (halfM n) (List.replicate c (halfM n) ++ (F ++ List.replicate d (identM n))) = c := by
    intro c
    induction c with
    | zero =>
      rw [List.replicate_zero, List.nil_append]
      cases F with
      | cons p F => exact dropH_no _ (h.ne p (by simp)).1
      | nil =>
        cases d with
        | zero => exact ⟨rfl, rfl⟩
        | succ d => exact dropH_no _ (ident_ne hn)
    | succ c ih =>
      rw [List.replicate_succ, List.cons_append]
      obtain ⟨e1, e2⟩ := dropH_yes (h := halfM n) (List.replicate c (halfM n) ++ (F ++ List.replicate d (identM n)))
      exact ⟨e1.trans ih.1, by rw [e2, ih.2]⟩
  rw [h.eq]
  exact key c
def lenBx (w : World) (bx : Nat) : Nat := match w.cell? ⟨bx, 2, none⟩ with | some (.slice _ n _) => n | _ => 0
theorem lenBx_of {w : World} {bx base top n : Nat} {Q : Int} {L : List (List Int)} {v : Value} (h : NBx w bx base top n Q L v) : lenBx w bx = L.length := by
  obtain ⟨A, c, rfl, -⟩ := h.fr.shape
  unfold lenBx
  rw [h.c2.1]
theorem tidy_any (w : World) (bx base top n c d : Nat) (Q : Int) (L F : List (List Int)) (v : Value) (h : NBx w bx base top n Q L v) (hd : Dec n L c F d) (hn : 2 ≤ n) (hn2 : n ≤ 12) (hl : L.length ≤ 1000000) (hq : -1000000 ≤ Q ∧ Q ≤ 1000000) (ha : AllP n L) :
    Calls Try.prog 115 #[.pointer (some ⟨bx, 0, none⟩)] w fun e w' => e = .returned (.tuple #[]) ∧ (∃ v', NBx w' bx base top n (Q + c) F v') ∧ Chg (fun x => x = bx) w w' := by
  obtain ⟨D1, D2⟩ := hd.drops hn
  have HD1 := Lib.hid D1
  have HD2 := Lib.hid D2
  have HN := Lib.hid hd.ne
  have HDE := Lib.hid hd.eq
  have HA := Lib.hid ha
  have H := Lib.hid h
  have HLT := Lib.hid h.lt
  have HSZ := Lib.hid (World.block_lt_of_cell? w _ h.c0.1)
  obtain ⟨d0, -⟩ := h.c0
  clear D1 D2 hd h ha
  go_enter Try.func115, Try.ntmps115
  go_wp2
  go_region_held3 (fun w' => w'.cell? ⟨bx, 0, none⟩ = some (.int .i64 (n : Int)))
      (first | exact d0 | exact Chg.cell g1 (by assumption) id | exact Chg.cell g2 (by assumption) id)
      (first | (go_at_call 82; refine (halfTwist_any _ n (by omega)).mono ?_; rintro e w1 ⟨v1, rfl, k1, g1⟩; obtain ⟨A1, c1, rfl, -, -, -⟩ := k1.shape; rw [halfM_length] at k1; rw [halfM_length]; have K1 := Lib.hid k1; have G1 := Lib.hid (Chg.trans (show Up w _ from (by repeat (first | exact Chg.refl _ _ | apply Chg.drew | apply Chg.drewN | refine Chg.alloc ?_ _))) g1); clear k1) | (go_at_call 110; refine (identity_any _ n (by omega)).mono ?_; rintro e w2 ⟨v2, rfl, k2, g2⟩; obtain ⟨A2, c2, rfl, -, -, -⟩ := k2.shape; rw [identM_length] at k2; rw [identM_length]; have K2 := Lib.hid k2; have G2 := Lib.hid (Chg.trans (show Up w1 _ from (by repeat (first | exact Chg.refl _ _ | apply Chg.drew | apply Chg.drewN | refine Chg.alloc ?_ _))) g2); clear k2))
  have HX := Lib.hid (H.out.up (Chg.trans G1.out G2.out))
  have K1' := Lib.hid (K1.out.up G2.out)
  have UU := Lib.hid (Chg.trans G1.out G2.out)
  have HC0 := Lib.hid (HD2.out)
  have HWW := Lib.hid (show w.heap.size ≤ w1.heap.size from G1.out.size)
  clear K1 G1 G2 g1 g2 d0 H
  obtain ⟨wb, hwb⟩ : ∃ x, x = w2 := ⟨_, rfl⟩
  go_wp2
  go_loopw [14] (fun _ wr => ∃ (L1 : List (List Int)) (Q1 : Int) (v3 : Value), Hid (NBx wr bx base top n Q1 L1 v3) ∧ Hid (dropH (halfM n) L1 = F ++ List.replicate d (identM n)) ∧ Hid (Q1 + (cntH (halfM n) L1 : Nat) = Q + c) ∧ Hid (AllP n L1 ∧ L1.length ≤ L.length ∧ -1000000 ≤ Q1 ∧ Q1 ≤ 3000000 - L1.length) ∧ Hid (Chg (fun x => x = bx) w2 wr)) (fun _ wr => lenBx wr bx)
  case atStart => exact ⟨L, Q, v, by first | exact HX | exact Lib.hid (HX.out.up (by repeat (first | exact Chg.refl _ _ | apply Chg.drew | apply Chg.drewN | refine Chg.alloc ?_ _))), HD1, Lib.hid (by rw [HC0.out]), Lib.hid ⟨HA.out, Nat.le_refl _, hq.1, by omega⟩, by first | exact Lib.hid (Chg.refl _ _) | exact Lib.hid (Chg.of_up (by repeat (first | exact Chg.refl _ _ | apply Chg.drew | apply Chg.drewN | refine Chg.alloc ?_ _)))⟩
  case round =>
    obtain ⟨L1, Q1, v3, hx, hdr, hcn, hal, hg⟩ := hrel
    have HLB := Lib.hid (lenBx_of hx.out)
    cases L1 with
    | nil =>
      obtain ⟨A3, c3, hv3, -, -, -⟩ := hx.out.fr.shape
      subst hv3
      obtain ⟨e0, -⟩ := hx.out.c0
      obtain ⟨e2, -⟩ := hx.out.c2
      simp only [List.length_nil] at e2
      go_wp2
      have HFD := Lib.hid (show F = [] ∧ d = 0 from by
        have h1 := hdr.out
        simp only [dropH] at h1
        have h2 := congrArg List.length h1
        simp only [List.length_nil, List.length_append, List.length_replicate] at h2
        exact ⟨List.eq_nil_of_length_eq_zero (by omega), by omega⟩)
      go_loopw [52] (fun _ wr2 => Hid (Up wr wr2)) (fun _ _ => 0)
      case atStart => first | exact Lib.hid (Chg.refl _ _) | exact Lib.hid (Chg.refl _ _).drew
      case round =>
        have HVV := Lib.hid (Chg.trans (Chg.refl Nowhere _) hrel.out)
        clear e0 e2
        have e2 := (CellF.up hrel.out hx.out.c2).1
        simp only [List.length_nil] at e2
        go_wp2
        refine wp_region_up (by kernel_rfl) (by kernel_rfl) ?_
        have e2u := up_cell e2
        repeat (go_big_quiet_step (fail))
        refine wpQuiet_nil ?_
        rintro u ⟨u0, hu⟩
        have gu := hu ▸ u0.up
        clear hu u0 e2u e2
        go_wp2
        go_end0
        have HUU := Lib.hid (Chg.trans HVV.out gu)
        have HXU := Lib.hid (hx.out.up HUU.out)
        have HQQ := Lib.hid (show Q1 = Q + c by have h1 := hcn.out; simp only [cntH] at h1; omega)
        refine ⟨rfl, ⟨_, by rw [HFD.out.1, ← HQQ.out]; exact HXU.out⟩, Chg.trans (Chg.of_up UU.out) (Chg.trans hg.out (Chg.of_up HUU.out))⟩
    | cons r L2 =>
      obtain ⟨g, o, c3, q, k, hv3, hlc, hcm, e3, hi3, hft⟩ := hx.out.fr.cons
      subst hv3
      obtain ⟨e0, -⟩ := hx.out.c0
      obtain ⟨e1, -⟩ := hx.out.c1
      obtain ⟨e2, -⟩ := hx.out.c2
      have hrl : r.length = n := (hal.out.1 r (by simp)).len
      have HI3 := Lib.hid hi3
      have HFT := Lib.hid hft
      have HKL := Lib.hid (And.intro hlc hcm)
      have d1 : decide ((0 : Int) < (L2.length : Int) + 1) = true := decide_eq_true (by omega)
      have d2 : decide ((1 : Int) < (n : Int)) = true := decide_eq_true (by omega)
      have d3 : (0 : Int) < (L2.length : Int) + 1 := by omega
      clear hi3 hft hrl hlc hcm
      obtain ⟨wk, hwk⟩ : ∃ x, x = wr := ⟨_, rfl⟩
      subst hwk
      have HQB := Lib.hid hal.out.2.2
      go_wp2_with fail
      refine (equalInts_any _ _ _ _ _ r (halfM n) (HI3.out.up (by repeat (first | exact Chg.refl _ _ | apply Chg.drew | apply Chg.drewN | refine Chg.alloc ?_ _))) (K1'.out.keep (T := (fun x => x = bx)) (Chg.trans hg.out (Chg.of_up (by repeat (first | exact Chg.refl _ _ | apply Chg.drew | apply Chg.drewN | refine Chg.alloc ?_ _)))) (fun b hb h e => by have e : b = bx := e; have := HSZ.out; have h : w.heap.size ≤ b := h.1; omega))).mono ?_
      rintro e w4 ⟨rfl, g4⟩
      have G4 := Lib.hid (show Up wk w4 from Chg.trans (by repeat (first | exact Chg.refl _ _ | apply Chg.drew | apply Chg.drewN | refine Chg.alloc ?_ _)) g4)
      clear g4 e0 e1 e2 e3
      have HX4 := Lib.hid (hx.out.up G4.out)
      have HF4 := Lib.hid (HFT.out.up G4.out)
      obtain ⟨e0, -⟩ := HX4.out.c0
      obtain ⟨e1, z1⟩ := HX4.out.c1
      obtain ⟨e2, z2⟩ := HX4.out.c2
      by_cases hrh : r = halfM n
      · have hs : sameL r (halfM n) = true := decide_eq_true hrh
        rw [hs]
        subst hrh
        obtain ⟨dh1, dh2⟩ := dropH_yes (h := halfM n) L2
        have HDH := Lib.hid (And.intro dh1 dh2)
        have hqb := HQB.out
        simp only [List.length_cons] at hqb
        have w64 : wrap64 (Q1 + 1) = Q1 + 1 := IntWalk.wrap64_in _ (by omega)
        have wi : IntKind.i64.wrap (Q1 + 1) = Q1 + 1 := IntWalk.i64_in _ (by omega)
        obtain ⟨Af, hAf⟩ : ∃ Af, Af = (if c3 = 1 then some (⟨g, o, none⟩ : Addr) else some ⟨g, o + 1, none⟩) := ⟨_, rfl⟩
        rw [← hAf] at HF4
        have HAF := Lib.hid hAf
        have HS1 := Lib.hid (HX4.out.setP (Q1 + 1))
        have HS2 := Lib.hid (HS1.out.setF (v' := .slice Af L2.length (c3 - 1)) (L' := L2) (HF4.out.keep (box_chg w4 bx 1 _) (fun b hb _ e => by have e : b = bx := e; have := HLT.out; omega)))
        have HCG := Lib.hid (show Chg (fun x => x = bx) w2 ((w4.setCell ⟨bx, 1, none⟩ (.int .i64 (Q1 + 1))).setCell ⟨bx, 2, none⟩ (.slice Af L2.length (c3 - 1))) from Chg.trans hg.out (Chg.trans (Chg.of_up G4.out) (Chg.trans (box_chg _ _ _ _) (box_chg _ _ _ _))))
        clear dh1 dh2 hqb hAf
        go_wp2_with fail
        rw [← HAF.out]
        go_wp2
        go_roundw
        case rel => exact ⟨L2, Q1 + 1, _, HS2, Lib.hid (HDH.out.1.symm.trans hdr.out), Lib.hid (by have h1 := hcn.out; have h2 := HDH.out.2; rw [h2] at h1; omega), Lib.hid ⟨hal.out.1.tail, by have h1 := hal.out.2.1; simp only [List.length_cons] at h1; omega, by have := HQB.out.1; omega, by have h1 := HQB.out.2; simp only [List.length_cons] at h1; omega⟩, HCG⟩
        case measure => rw [lenBx_of HS2.out, HLB.out]; simp
      have hs : sameL r (halfM n) = false := decide_eq_false hrh
      rw [hs]
      obtain ⟨dh1, dh2⟩ := dropH_no L2 hrh
      have HM := Lib.hid (show r :: L2 = F ++ List.replicate d (identM n) from dh1.symm.trans hdr.out)
      have HQ1 := Lib.hid (show Q1 = Q + c by have h1 := hcn.out; rw [dh2] at h1; simpa using h1)
      have HX5 := Lib.hid (show NBx w4 bx base top n (Q + c) (F ++ List.replicate d (identM n)) _ from HQ1.out ▸ HM.out ▸ HX4.out)
      have HC5 := Lib.hid (show Chg (fun x => x = bx) w2 w4 from Chg.trans hg.out (Chg.of_up G4.out))
      have K25 := Lib.hid (K2.out.keep (T := (fun x => x = bx)) HC5.out (fun b hb h e => by have e : b = bx := e; have := HSZ.out; have h : w1.heap.size ≤ b := h.1; have := HWW.out; omega))
      have HNL := Lib.hid (show (F ++ List.replicate d (identM n)).length ≤ 1000000 by rw [← HM.out]; exact Nat.le_trans hal.out.2.1 hl)
      clear dh1 dh2 hrh hs d1 d2 d3 e0 e1 e2 z1 z2 hal hcn hdr hx HI3 HFT HF4 HX4
      go_wp2
      go_loopw [52] (fun _ wr => ∃ (e : Nat) (v4 : Value), e ≤ d ∧ Hid (NBx wr bx base top n (Q + c) (F ++ List.replicate e (identM n)) v4) ∧ Hid (Chg (fun x => x = bx) w4 wr)) (fun _ wr => lenBx wr bx)
      case atStart => exact ⟨d, _, Nat.le_refl _, by first | exact HX5 | exact Lib.hid (HX5.out.up (by repeat (first | exact Chg.refl _ _ | apply Chg.drew | apply Chg.drewN | refine Chg.alloc ?_ _))), by first | exact Lib.hid (Chg.refl _ _) | exact Lib.hid (Chg.of_up (by repeat (first | exact Chg.refl _ _ | apply Chg.drew | apply Chg.drewN | refine Chg.alloc ?_ _)))⟩
      case round =>
        obtain ⟨e, v4, he, hx5, hg5⟩ := hrel
        have HLB5 := Lib.hid (lenBx_of hx5.out)
        have HFIN := Lib.hid (fun (u : World) (hu : Up wr u) => (show Chg (fun x => x = bx) w u from Chg.trans (Chg.of_up UU.out) (Chg.trans HC5.out (Chg.trans hg5.out (Chg.of_up hu)))))
        have HLN := Lib.hid (show (F ++ List.replicate e (identM n)).length ≤ 1000000 by have h1 := HNL.out; rw [List.length_append, List.length_replicate] at h1 ⊢; omega)
        rcases snocs (e := e) HN.out with ⟨h1, h2⟩ | ⟨e', h1, h2⟩ | ⟨h1, F', pz, h2, h3⟩
        · subst h1
          have HX6 := Lib.hid hx5.out
          have HFN := Lib.hid h2
          obtain ⟨A6, c6, hv6, -, -, -⟩ := hx5.out.fr.shape
          subst hv6
          have e2 := hx5.out.c2.1
          simp only [List.replicate_zero, List.append_nil] at e2
          rw [h2] at e2
          simp only [List.length_nil] at e2
          clear h2
          go_wp2
          refine wp_region_up (by kernel_rfl) (by kernel_rfl) ?_
          have e2u := up_cell e2
          repeat (go_big_quiet_step (fail))
          refine wpQuiet_nil ?_
          rintro u ⟨u0, hu⟩
          have gu := Lib.hid (hu ▸ u0.up)
          clear hu u0 e2u e2
          go_wp2
          go_end0
          exact ⟨rfl, ⟨_, by have h1 := HX6.out.up gu.out; simp only [List.replicate_zero, List.append_nil] at h1; exact h1⟩, HFIN.out _ gu.out⟩
        · subst h1
          have hx6 := Lib.hid (show NBx wr bx base top n (Q + c) ((F ++ List.replicate e' (identM n)) ++ [identM n]) v4 from h2 ▸ hx5.out)
          have hx6len := Lib.hid (show ((F ++ List.replicate e' (identM n)) ++ [identM n]).length ≤ 1000000 from h2 ▸ HLN.out)
          have HLL6 := Lib.hid h2
          clear hx5 h2
          obtain ⟨g7, o7, c7, q7, k7, hv7, hl7, hm7, e3, hi7, hf7⟩ := hx6.out.fr.snoc
          subst hv7
          have e2 := hx6.out.c2.1
          have z2 := hx6.out.c2.2
          have HI7 := Lib.hid hi7
          have HF7 := Lib.hid hf7
          have hmm : (F ++ List.replicate e' (identM n)).length ≤ 1000000 := by have h1 := hx6len.out; simp only [List.length_append] at h1 ⊢; omega
          obtain ⟨m7, hm7'⟩ : ∃ m7, m7 = (F ++ List.replicate e' (identM n)).length := ⟨_, rfl⟩
          rw [← hm7'] at e2 e3 hmm hl7 HF7
          have HM7 := Lib.hid hm7'
          have d1 : decide ((0 : Int) < (m7 : Int) + 1) = true := decide_eq_true (by omega)
          have wk1 : IntKind.i64.wrap ((m7 : Int) + 1 - 1) = (m7 : Int) := by rw [show (m7 : Int) + 1 - 1 = (m7 : Int) by omega]; exact IntWalk.i64_in _ (by omega)
          have i0 : (0 : Int) ≤ (m7 : Int) := by omega
          have i1 : (m7 : Int) < (m7 : Int) + 1 := by omega
          clear hi7 hf7 hm7'
          go_wp2
          refine wp_region_up (by kernel_rfl) (by kernel_rfl) ?_
          have e2u := up_cell e2
          have e3u := up_cell e3
          repeat (go_big_quiet_step ((go_at_call 129; exact calls_up (equalInts_any _ _ _ _ _ (identM n) (identM n) (HI7.out.up (UpOf.up _)) ((K25.out.keep (T := (fun x => x = bx)) hg5.out (fun b hb h e => by have e : b = bx := e; have := HSZ.out; have h : w1.heap.size ≤ b := h.1; have := HWW.out; omega)).up (UpOf.up _))))))
          refine wpQuiet_nil ?_
          rintro u ⟨u0, hu⟩
          have gu := Lib.hid (hu ▸ u0.up)
          clear hu u0 e2u e3u e3
          have hs : sameL (identM n) (identM n) = true := decide_eq_true rfl
          rw [hs]
          have HX7 := Lib.hid (hx6.out.up gu.out)
          have HF8 := Lib.hid (show FRow u base top (.slice (some ⟨g7, o7, none⟩) m7 c7) (F ++ List.replicate e' (identM n)) from HF7.out.up gu.out)
          have HS7 := Lib.hid (HX7.out.setF HF8.out)
          have HC7 := Lib.hid (box_chg u bx 2 (.slice (some ⟨g7, o7, none⟩) m7 c7))
          clear e2 z2
          have e2 : u.cell? ⟨bx, 2, none⟩ = some (.slice (some ⟨g7, o7, none⟩) (m7 + 1) c7) := by have h1 := HX7.out.c2.1; rw [h1]; simp only [List.length_append, List.length_cons, List.length_nil, HM7.out]
          have z2 := HX7.out.c2.2
          go_wp2
          go_region
          all_goals go_wp2
          all_goals (go_roundw; (case rel => exact ⟨e', _, by omega, Lib.hid (NBx.up HS7.out (by repeat (first | exact Chg.refl _ _ | apply Chg.drew | apply Chg.drewN | refine Chg.alloc ?_ _))), Lib.hid (Chg.trans hg5.out (Chg.trans (Chg.of_up gu.out) (Chg.trans HC7.out (Chg.of_up (by repeat (first | exact Chg.refl _ _ | apply Chg.drew | apply Chg.drewN | refine Chg.alloc ?_ _))))))⟩); (case measure => rw [lenBx_of (NBx.up HS7.out (by repeat (first | exact Chg.refl _ _ | apply Chg.drew | apply Chg.drewN | refine Chg.alloc ?_ _))), HLB5.out, HLL6.out]; simp))
        · subst h1
          have hx6 := Lib.hid (show NBx wr bx base top n (Q + c) (F' ++ [pz]) v4 from by have h1 := hx5.out; simp only [List.replicate_zero, List.append_nil] at h1; rw [h2] at h1; exact h1)
          have hx6len := Lib.hid (show (F' ++ [pz]).length ≤ 1000000 from by have h1 := HLN.out; simp only [List.replicate_zero, List.append_nil] at h1; rw [h2] at h1; exact h1)
          have HFE := Lib.hid h2
          have HPN := Lib.hid h3
          clear hx5 h2 h3
          obtain ⟨g7, o7, c7, q7, k7, hv7, hl7, hm7, e3, hi7, hf7⟩ := hx6.out.fr.snoc
          subst hv7
          have e2 := hx6.out.c2.1
          have z2 := hx6.out.c2.2
          have HI7 := Lib.hid hi7
          have HF7 := Lib.hid hf7
          have hmm : (F').length ≤ 1000000 := by have h1 := hx6len.out; simp only [List.length_append] at h1 ⊢; omega
          obtain ⟨m7, hm7'⟩ : ∃ m7, m7 = (F').length := ⟨_, rfl⟩
          rw [← hm7'] at e2 e3 hmm hl7 HF7
          have HM7 := Lib.hid hm7'
          have d1 : decide ((0 : Int) < (m7 : Int) + 1) = true := decide_eq_true (by omega)
          have wk1 : IntKind.i64.wrap ((m7 : Int) + 1 - 1) = (m7 : Int) := by rw [show (m7 : Int) + 1 - 1 = (m7 : Int) by omega]; exact IntWalk.i64_in _ (by omega)
          have i0 : (0 : Int) ≤ (m7 : Int) := by omega
          have i1 : (m7 : Int) < (m7 : Int) + 1 := by omega
          clear hi7 hf7 hm7'
          go_wp2
          refine wp_region_up (by kernel_rfl) (by kernel_rfl) ?_
          have e2u := up_cell e2
          have e3u := up_cell e3
          repeat (go_big_quiet_step ((go_at_call 129; exact calls_up (equalInts_any _ _ _ _ _ pz (identM n) (HI7.out.up (UpOf.up _)) ((K25.out.keep (T := (fun x => x = bx)) hg5.out (fun b hb h e => by have e : b = bx := e; have := HSZ.out; have h : w1.heap.size ≤ b := h.1; have := HWW.out; omega)).up (UpOf.up _))))))
          refine wpQuiet_nil ?_
          rintro u ⟨u0, hu⟩
          have gu := Lib.hid (hu ▸ u0.up)
          clear hu u0 e2u e3u e3
          have hs : sameL pz (identM n) = false := decide_eq_false HPN.out
          rw [hs]
          have HX7 := Lib.hid (hx6.out.up gu.out)
          clear e2 z2
          go_wp2
          go_end0
          exact ⟨rfl, ⟨_, by rw [HFE.out]; exact HX7.out⟩, HFIN.out _ gu.out⟩
end Go.Proofs.Ytplabnjdhkmmkaa
end
