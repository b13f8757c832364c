/- Arguments that are slices of records of whole numbers, as lists. No condition. Arguments that are structs with a slice of numbers. No condition. Arguments that are nested slices, and slices of structs with slices. No condition. Arguments that are proofs. No condition. Arguments that are lists of events. No condition. -/
import Derived.Test.YtplabnjdhkmmkaaPF3
import Derived.Deep.Slices
import Derived.Deep.Fields
import Derived.ChangeSame
import Derived.Test.YtplabnjdhkmmkaaPF5
import Derived.Lib.SmallJoins
section
set_option linter.unusedSimpArgs false
set_option linter.unusedVariables false
namespace Go.Proofs.Ytplabnjdhkmmkaa
open Go.ChangeShapes Go.WideShapes Go.ChangeAt Go.RowKit Go.Deep
section
variable {H : Type} {enc : TypeId × Value → H} {P : Program} {w : World}
/-- from 'each of the first m elements reads as a record' to one list -/
theorem rows_of {α : Type} {Q : Nat → α → Prop} : ∀ (m : Nat), (∀ i, i < m → ∃ y, Q i y) → ∃ ys : List α, ys.length = m ∧ ∀ i (h : i < ys.length), Q i ys[i]
  | 0, _ => ⟨[], rfl, fun i h => absurd h (by simp)⟩
  | m + 1, h => by
    obtain ⟨ys, hl, hq⟩ := rows_of m (fun i hi => h i (by omega))
    obtain ⟨y, hy⟩ := h m (by omega)
    refine ⟨ys ++ [y], by simp [hl], fun i hi => ?_⟩
    by_cases e : i < ys.length
    · rw [List.getElem_append_left e]; exact hq i e
    · have hi' : i = m := by simp at hi; omega
      subst hi'
      rw [List.getElem_append_right (by omega)]
      simpa [hl] using hy
theorem open_rows {α : Type} (f : α → List Value) (k : Nat) (ok : α → Prop) (hf : ∀ x, (f x).length = k) {t e : TypeId} {v : Value} {d : DataW H} {p : List MemPlace} {base : Nat}
    (ht : P.underlying t = some (.slice e)) (hC : P.cellsOf e = k) (hv : Value.okWide P w .any base t v) (hk : 0 < k)
    (hdec : ∀ n cs x, DataW.trod enc P w 0 (fun _ => true) true n e cs = some x → ∃ y, cs = f y ∧ ok y)
    (h : DataW.Trod enc P w 0 (fun _ => true) true t v d p) (hz : ∀ b off, MemPlace.cell b off ∈ p → w.frozen? ⟨b, off, none⟩ = false) :
    ∃ xs : List α, Raw w (fun b => b < w.heap.size) k v xs.length (xs.flatMap f) ∧ ∀ x ∈ xs, ok x := by
  obtain ⟨a0, len, cap, rfl⟩ := okWide_slice ht hv
  obtain ⟨fuel, hfu⟩ := h
  rcases open_slice ht hfu with ⟨hcs, hx⟩ | ⟨a, len', cap', m, n, D, Pl, hcs, _, hl, hm, hmm, hx, hi⟩
  · simp [Value.cells] at hcs
    obtain ⟨rfl, rfl, rfl⟩ := hcs
    exact ⟨[], Raw.nil _ _ _ _ _ (by omega) (by simp), by simp⟩
  · simp [Value.cells] at hcs
    obtain ⟨rfl, rfl, rfl⟩ := hcs
    simp at hmm
    rw [hC] at hi hx
    obtain ⟨ys, hyl, hy⟩ := rows_of (Q := fun i y => ok y ∧ ∀ j u, (f y)[j]? = some u → w.cell? (a.add (i * k + j)) = some u) len (fun i hil => by
      obtain ⟨cs', hc, htr⟩ := hi i (by omega)
      obtain ⟨y, rfl, hok⟩ := hdec _ _ _ htr
      obtain ⟨_, hcl, hat⟩ := World.cells?_some hc
      refine ⟨y, hok, fun j u hu => ?_⟩
      have hj : j < k := by
        obtain ⟨h1, _⟩ := List.getElem?_eq_some_iff.1 hu
        rw [hf] at h1; exact h1
      rw [← Go.Deep.add_add, hat j hj, hu])
    subst hyl
    unfold Go.maxLen at hm
    have hspot : 0 < ys.length → ∃ b o, a = ⟨b, o, none⟩ := fun hp => by
      obtain ⟨b, o, s⟩ := a
      have h0 := (hy 0 hp).2 0 _ (List.getElem?_eq_getElem (by rw [hf]; exact hk))
      have hs : s = none := by simpa [Addr.add] using World.cell?_spot h0
      subst hs
      exact ⟨b, o, rfl⟩
    refine ⟨ys, ⟨?_, some a, cap, rfl, hl, by omega, fun hp => ?_, by simp⟩, fun x hx => ?_⟩
    · exact flat_length f k hf ys
    · obtain ⟨b, o, rfl⟩ := hspot hp
      have h0 := (hy 0 hp).2 0 _ (List.getElem?_eq_getElem (by rw [hf]; exact hk))
      have hb : b < w.heap.size := by
        have := World.block_lt_of_cell? w _ h0
        simpa [Addr.add] using this
      refine ⟨b, o, rfl, hb, hb, fun q hq => ?_⟩
      have hlen := flat_length f k hf ys
      have hqk : q < ys.length * k := by omega
      have hdi : q / k < ys.length := Nat.div_lt_of_lt_mul (by rw [Nat.mul_comm]; exact hqk)
      have hmo : q % k < k := Nat.mod_lt _ hk
      have hde : q / k * k + q % k = q := by rw [Nat.mul_comm]; exact Nat.div_add_mod q k
      have hg := flat_get f k hf ys (q / k) hdi (q % k) hmo
      rw [hde] at hg
      have hcell := (hy (q / k) hdi).2 (q % k) _ (by rw [← hg]; exact List.getElem?_eq_getElem hq)
      rw [hde, Go.WideShapes.add_plain] at hcell
      refine ⟨hcell, hz b (o + q) ?_⟩
      simp only [Prod.mk.injEq] at hx
      rw [hx.2]
      refine List.mem_append_left _ ?_
      simp [MemPlace.row]
      have : ys.length * k ≤ m * k := Nat.mul_le_mul_right k (by omega)
      omega
    · obtain ⟨i, hi, rfl⟩ := List.getElem_of_mem hx
      exact (hy i hi).1
theorem struct_sub {t : TypeId} {n : Nat} {cs : List Value} {x : DataW H × List MemPlace} {fs : Array Field} (ht : P.underlying t = some (.struct fs)) (h : DataW.trod enc P w 0 (fun _ => true) true n t cs = some x)
    {i : Nat} {f : Field} (hf : fs[i]? = some f) : ∃ m y, DataW.trod enc P w 0 (fun _ => true) true m f.type ((cs.drop f.offset).take (P.cellsOf f.type)) = some y := by
  obtain ⟨ys, m, _, _, _, hl, hg⟩ := DataW.trod_struct ht h
  have hi := (Array.getElem?_eq_some_iff.1 hf).1
  exact ⟨m, ys[i]'(by omega), (hg i f hf).trans (List.getElem?_eq_getElem (by omega))⟩
theorem struct_int {t : TypeId} {n : Nat} {cs : List Value} {x : DataW H × List MemPlace} {fs : Array Field} (ht : P.underlying t = some (.struct fs)) (h : DataW.trod enc P w 0 (fun _ => true) true n t cs = some x)
    {i : Nat} {f : Field} (hf : fs[i]? = some f) (hu : P.underlying f.type = some (.int .i64)) (hc : P.cellsOf f.type = 1) : ∃ z, cs[f.offset]? = some (.int .i64 z) ∧ I64 z := by
  obtain ⟨m, y, hy⟩ := struct_sub ht h hf
  rw [hc] at hy
  obtain ⟨z, he, _, hw⟩ := DataW.trod_int hu hy
  refine ⟨z, ?_, I64.of_wf hw⟩
  have := congrArg (fun l => l[0]?) he
  simpa using this
theorem struct_len {t : TypeId} {n : Nat} {cs : List Value} {x : DataW H × List MemPlace} {fs : Array Field} (ht : P.underlying t = some (.struct fs)) (h : DataW.trod enc P w 0 (fun _ => true) true n t cs = some x) :
    cs.length = P.cellsOf t := by
  obtain ⟨_, _, _, _, hl, _⟩ := DataW.trod_struct ht h
  exact hl
theorem len2 {cs : List Value} (h : cs.length = 2) : ∃ a b, cs = [a, b] := by
  match cs, h with
  | [a, b], _ => exact ⟨a, b, rfl⟩
end
theorem int1 : Try.prog.cellsOf 2 = 1 := by kernel_rfl
section
variable {H : Type} {enc : TypeId × Value → H} {w : World}
end
end Go.Proofs.Ytplabnjdhkmmkaa
end
section
set_option linter.unusedSimpArgs false
set_option linter.unusedVariables false
namespace Go.Proofs.Ytplabnjdhkmmkaa
open Go.ChangeShapes Go.WideShapes Go.ChangeAt Go.RowKit Go.Deep
end Go.Proofs.Ytplabnjdhkmmkaa
end
section
set_option linter.unusedSimpArgs false
set_option linter.unusedVariables false
namespace Go.Proofs.Ytplabnjdhkmmkaa
open Go.ChangeShapes Go.WideShapes Go.ChangeAt Go.RowKit Go.Deep
section
variable {H : Type} {enc : TypeId × Value → H} {P : Program} {w : World}
theorem len6 {cs : List Value} (h : cs.length = 6) : ∃ a b c d e f, cs = [a, b, c, d, e, f] := by
  match cs, h with
  | [a, b, c, d, e, f], _ => exact ⟨a, b, c, d, e, f, rfl⟩
end
end Go.Proofs.Ytplabnjdhkmmkaa
end
section
set_option linter.unusedSimpArgs false
set_option linter.unusedVariables false
set_option maxRecDepth 100000
namespace Go.Proofs.Ytplabnjdhkmmkaa
open Go.ChangeShapes Go.WideShapes Go.ChangeAt Go.RowKit Go.Deep
section
variable {H : Type} {enc : TypeId × Value → H} {w : World}
theorem dec_Event (n : Nat) (cs : List Value) (x : DataW H × List MemPlace) (h : DataW.trod enc Try.prog w 0 (fun _ => true) true n 94 cs = some x) : ∃ y : EvM, cs = y.cells ∧ y.ok := by
  obtain ⟨a0, a1, a2, a3, a4, a5, rfl⟩ := len6 ((struct_len Try.underlying94 h).trans (by kernel_rfl))
  obtain ⟨z0, e0, i0⟩ := struct_int Try.underlying94 h (i := 0) rfl Try.underlying2 int1
  obtain ⟨z1, e1, i1⟩ := struct_int Try.underlying94 h (i := 1) rfl Try.underlying2 int1
  obtain ⟨z2, e2, i2⟩ := struct_int Try.underlying94 h (i := 2) rfl Try.underlying2 int1
  obtain ⟨z3, e3, i3⟩ := struct_int Try.underlying94 h (i := 3) rfl Try.underlying2 int1
  obtain ⟨z4, e4, i4⟩ := struct_int Try.underlying94 h (i := 4) rfl Try.underlying2 int1
  obtain ⟨z5, e5, i5⟩ := struct_int Try.underlying94 h (i := 5) rfl Try.underlying2 int1
  simp at e0 e1 e2 e3 e4 e5
  subst e0 e1 e2 e3 e4 e5
  exact ⟨⟨z0, z1, z2, z3, z4, z5⟩, rfl, i0, i1, i2, i3, i4, i5⟩
end
/-- a proof, as an argument -/
def ProofA (w : World) (S : Nat → Prop) (v : Value) (p : ProofM) : Prop := ProofV w S S S v p
theorem ProofA.up {w w' : World} {S : Nat → Prop} {v : Value} {p : ProofM} (h : ProofA w S v p) (g : Up w w') : ProofA w' S v p := ProofV.up h g
end Go.Proofs.Ytplabnjdhkmmkaa
end
section
set_option linter.unusedSimpArgs false
set_option linter.unusedVariables false
set_option maxRecDepth 100000
namespace Go.Proofs.Ytplabnjdhkmmkaa
open Go.ChangeShapes Go.WideShapes Go.ChangeAt Go.RowKit Go.Deep
theorem open_Evs {H : Type} {enc : TypeId × Value → H} {w : World} {v : Value} {d : DataW H} {p : List MemPlace} {base : Nat} (hv : Value.okWide Try.prog w .any base 52 v)
    (h : DataW.Trod enc Try.prog w 0 (fun _ => true) true 52 v d p) (hz : ∀ b off, MemPlace.cell b off ∈ p → w.frozen? ⟨b, off, none⟩ = false) :
    ∃ xs : List EvM, Evs w (fun b => b < w.heap.size) v xs :=
  open_rows (e := 94) EvM.cells 6 EvM.ok EvM.cells_length Try.underlying52 (by kernel_rfl) hv (by decide) (fun n cs x hx => dec_Event n cs x hx) h hz
end Go.Proofs.Ytplabnjdhkmmkaa
end
