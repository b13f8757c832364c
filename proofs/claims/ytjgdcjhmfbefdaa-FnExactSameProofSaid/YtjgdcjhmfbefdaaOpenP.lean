/- Arguments that are proofs. No condition. -/
import Derived.Test.YtjgdcjhmfbefdaaOpenN
import Derived.Test.YtjgdcjhmfbefdaaPrfM
set_option linter.unusedSimpArgs false
set_option linter.unusedVariables false
namespace Go.Proofs.Ytjgdcjhmfbefdaa
open Go.ChangeShapes Go.WideShapes Go.ChangeAt Go.RowKit Go.Deep
section
variable {H : Type} {enc : TypeId × Value → H} {w : World}
theorem sl1 : Try.prog.cellsOf 37 = 1 := by kernel_rfl
theorem dec_IntsE (n : Nat) (cs : List Value) (x : DataW H × List MemPlace) (h : DataW.trod enc Try.prog w 0 (fun _ => true) true n 37 cs = some x) (hz : ∀ b off, MemPlace.cell b off ∈ x.2 → w.frozen? ⟨b, off, none⟩ = false) (hl : cs.length = 1) :
    ∃ a, IntsE (fun b => b < w.heap.size) w cs a := by
  obtain ⟨u, rfl⟩ := len1 hl
  obtain ⟨xs, hx⟩ := open_IntsT Try.underlying37 Try.underlying2 (by kernel_rfl) h hz
  obtain ⟨A, c, rfl, k1, k2, -⟩ := hx.shape
  exact ⟨xs, A, c, rfl, hx, k1, k2⟩
theorem open_IntSST {n : Nat} {u : Value} {y : DataW H × List MemPlace} (h : DataW.trod enc Try.prog w 0 (fun _ => true) true n 34 [u] = some y) (hz : ∀ b off, MemPlace.cell b off ∈ y.2 → w.frozen? ⟨b, off, none⟩ = false) :
    ∃ xs, IntSSV w (fun b => b < w.heap.size) (fun b => b < w.heap.size) (fun b => b < w.heap.size) u xs :=
  open_nst (IntsE (fun b => b < w.heap.size)) 1 (by omega) Try.underlying34 sl1 (fun n cs x h hz hl => dec_IntsE n cs x h hz hl) h hz
set_option maxRecDepth 100000 in
theorem dec_Event (n : Nat) (cs : List Value) (x : DataW H × List MemPlace) (h : DataW.trod enc Try.prog w 0 (fun _ => true) true n 233 cs = some x) : ∃ y : EvM, cs = y.cells ∧ y.ok := by
  obtain ⟨a0, a1, a2, a3, a4, a5, rfl⟩ := len6 ((struct_len Try.underlying233 h).trans (by kernel_rfl))
  obtain ⟨z0, e0, i0⟩ := struct_int Try.underlying233 h (i := 0) rfl Try.underlying2 int1
  obtain ⟨z1, e1, i1⟩ := struct_int Try.underlying233 h (i := 1) rfl Try.underlying2 int1
  obtain ⟨z2, e2, i2⟩ := struct_int Try.underlying233 h (i := 2) rfl Try.underlying2 int1
  obtain ⟨z3, e3, i3⟩ := struct_int Try.underlying233 h (i := 3) rfl Try.underlying2 int1
  obtain ⟨z4, e4, i4⟩ := struct_int Try.underlying233 h (i := 4) rfl Try.underlying2 int1
  obtain ⟨z5, e5, i5⟩ := struct_int Try.underlying233 h (i := 5) rfl Try.underlying2 int1
  simp at e0 e1 e2 e3 e4 e5
  subst e0 e1 e2 e3 e4 e5
  exact ⟨⟨z0, z1, z2, z3, z4, z5⟩, rfl, i0, i1, i2, i3, i4, i5⟩
theorem open_EvsT {n : Nat} {u : Value} {y : DataW H × List MemPlace} (h : DataW.trod enc Try.prog w 0 (fun _ => true) true n 175 [u] = some y) (hz : ∀ b off, MemPlace.cell b off ∈ y.2 → w.frozen? ⟨b, off, none⟩ = false) :
    ∃ xs, Evs w (fun b => b < w.heap.size) u xs := by
  obtain ⟨xs, cs, h1, h2⟩ := open_nst (fun _ cs (y : EvM) => cs = y.cells ∧ y.ok) 6 (by omega) Try.underlying175 (show Try.prog.cellsOf 233 = 6 by kernel_rfl) (fun n cs x h hz hl => dec_Event n cs x h) h hz
  have e := flat_of_chunks EvM.cells 6 (by omega) EvM.cells_length xs cs h1.1 (fun i hi => (h2 i hi).1)
  subst e
  refine ⟨xs, h1, fun x hx => ?_⟩
  obtain ⟨i, hi, rfl⟩ := List.getElem_of_mem hx
  exact (h2 i hi).2
theorem open_EvSST {n : Nat} {u : Value} {y : DataW H × List MemPlace} (h : DataW.trod enc Try.prog w 0 (fun _ => true) true n 23 [u] = some y) (hz : ∀ b off, MemPlace.cell b off ∈ y.2 → w.frozen? ⟨b, off, none⟩ = false) :
    ∃ xs, EvSV w (fun b => b < w.heap.size) (fun b => b < w.heap.size) (fun b => b < w.heap.size) u xs :=
  open_nst (EvsE (fun b => b < w.heap.size)) 1 (by omega) Try.underlying23 (show Try.prog.cellsOf 175 = 1 by kernel_rfl) (fun n cs x h hz hl => by
    obtain ⟨u, rfl⟩ := len1 hl
    obtain ⟨xs, hx⟩ := open_EvsT h hz
    obtain ⟨A, c, rfl, k1, k2, -⟩ := hx.shape
    exact ⟨xs, A, c, rfl, hx, k1, k2⟩) h hz
set_option maxRecDepth 100000 in
theorem dec_Norm (n : Nat) (cs : List Value) (x : DataW H × List MemPlace) (h : DataW.trod enc Try.prog w 0 (fun _ => true) true n 173 cs = some x) (hz : ∀ b off, MemPlace.cell b off ∈ x.2 → w.frozen? ⟨b, off, none⟩ = false) (hl : cs.length = 3) :
    ∃ y, NormE (fun b => b < w.heap.size) (fun b => b < w.heap.size) (fun b => b < w.heap.size) w cs y := by
  obtain ⟨a0, a1, a2, rfl⟩ := len3 hl
  obtain ⟨z0, e0, i0⟩ := struct_int Try.underlying173 h (i := 0) rfl Try.underlying2 int1
  obtain ⟨z1, e1, i1⟩ := struct_int Try.underlying173 h (i := 1) rfl Try.underlying2 int1
  obtain ⟨m2, y2, h2, hz2⟩ := struct_subz Try.underlying173 h hz (i := 2) rfl
  obtain ⟨xs, hx⟩ := open_IntSST (u := a2) (by simpa [show Try.prog.cellsOf 34 = 1 by kernel_rfl] using h2) hz2
  simp at e0 e1
  subst e0 e1
  obtain ⟨A, c, rfl, k1, k2, -⟩ := hx.shape
  exact ⟨⟨z0, z1, xs⟩, A, c, rfl, hx, ⟨k1, k2⟩, i0, i1⟩
theorem open_NormsT {n : Nat} {u : Value} {y : DataW H × List MemPlace} (h : DataW.trod enc Try.prog w 0 (fun _ => true) true n 22 [u] = some y) (hz : ∀ b off, MemPlace.cell b off ∈ y.2 → w.frozen? ⟨b, off, none⟩ = false) :
    ∃ xs, NormSV w (fun b => b < w.heap.size) (fun b => b < w.heap.size) (fun b => b < w.heap.size) u xs :=
  open_nst (NormE (fun b => b < w.heap.size) (fun b => b < w.heap.size) (fun b => b < w.heap.size)) 3 (by omega) Try.underlying22 (show Try.prog.cellsOf 173 = 3 by kernel_rfl) (fun n cs x h hz hl => dec_Norm n cs x h hz hl) h hz
end
/-- a proof, as an argument -/
def ProofA (w : World) (S : Nat → Prop) (v : Value) (p : ProofM) : Prop := ProofV w S S S v p
theorem ProofA.up {w w' : World} {S : Nat → Prop} {v : Value} {p : ProofM} (h : ProofA w S v p) (g : Up w w') : ProofA w' S v p := ProofV.up h g
def szP (p : ProofM) : Nat := szF (fun x => szF List.length x.fs) p.forms + szF List.length p.sts
theorem openProof {w : World} {S : Nat → Prop} {v : Value} {p : ProofM} (h : ProofA w S v p) : ∃ A c Z z, v = .agg #[.slice A p.forms.length c, .slice Z p.sts.length z] ∧ ProofA w S v p :=
  let ⟨A, c, Z, z, he, hr⟩ := h; ⟨A, c, Z, z, he, A, c, Z, z, he, hr⟩
set_option maxRecDepth 100000 in
theorem open_FabricProof {H : Type} {enc : TypeId × Value → H} {w : World} {v : Value} {d : DataW H} {p : List MemPlace} {base : Nat}
    (hv : Value.okWide Try.prog w .any base 25 v) (h : DataW.Trod enc Try.prog w 0 (fun _ => true) true 25 v d p)
    (hz : ∀ b off, MemPlace.cell b off ∈ p → w.frozen? ⟨b, off, none⟩ = false) : ∃ r, ProofA w (fun b => b < w.heap.size) v r := by
  obtain ⟨v0, v1, y0, y1, n, rfl, -, rfl, h0, h1⟩ := Go.Joins.open_agg2 Try.underlying25 (by kernel_rfl) (show Try.prog.cellsOf 25 = 2 by kernel_rfl) hv h
  obtain ⟨fs, hf⟩ := open_NormsT h0 (fun b off hm => hz b off (by simp [hm]))
  obtain ⟨ss, hs⟩ := open_EvSST h1 (fun b off hm => hz b off (by simp [hm]))
  obtain ⟨A, c, rfl, k1, k2, -⟩ := hf.shape
  obtain ⟨Z, z, rfl, k3, k4, -⟩ := hs.shape
  exact ⟨⟨fs, ss⟩, A, c, Z, z, rfl, hf, hs, ⟨k1, k2⟩, ⟨k3, k4⟩⟩
end Go.Proofs.Ytjgdcjhmfbefdaa
