/- The knitting machine in memory: what stores into its beds, carriers, loops do. No condition. -/
import Derived.Test.YtiiodfcbpmkodaaGreatMach
set_option linter.unusedSimpArgs false
set_option linter.unusedVariables false
namespace Go.Proofs.YtiiodfcbpmkodaaGreat
open Go.ChangeShapes Go.WideShapes Go.ChangeAt Go.RowKit
section
variable {w w1 : World} {S T : Nat → Prop} {K p : Nat} {m : MachM} {F B C L D : Value} {fs bs : List Value}
structure Parts (p : Nat) (F B C L D : Value) (fs bs : List Value) : Prop where
  p : ∀ v ∈ F :: B :: C :: L :: D :: (fs ++ bs), Off2 (ptr p) v
  f : ∀ v ∈ B :: C :: L :: D :: (fs ++ bs), Off2 F v
  b : ∀ v ∈ C :: L :: D :: (fs ++ bs), Off2 B v
  c : ∀ v ∈ L :: D :: (fs ++ bs), Off2 C v
  l : ∀ v ∈ D :: (fs ++ bs), Off2 L v
  d : ∀ v ∈ fs ++ bs, Off2 D v
  ff : fs.Pairwise Off2
  bb : bs.Pairwise Off2
  fb : ∀ u ∈ fs, ∀ v ∈ bs, Off2 u v
theorem MachX.parts (h : MachX w S K p m F B C L D fs bs) : Parts p F B C L D fs bs := by
  obtain ⟨h1, t1⟩ := List.pairwise_cons.1 h.ap
  obtain ⟨h2, t2⟩ := List.pairwise_cons.1 t1
  obtain ⟨h3, t3⟩ := List.pairwise_cons.1 t2
  obtain ⟨h4, t4⟩ := List.pairwise_cons.1 t3
  obtain ⟨h5, t5⟩ := List.pairwise_cons.1 t4
  obtain ⟨h6, t6⟩ := List.pairwise_cons.1 t5
  obtain ⟨a, b, c⟩ := List.pairwise_append.1 t6
  exact ⟨h1, h2, h3, h4, h5, h6, a, b, c⟩
theorem off_n1 {u v : Value} (h : Off2 u v) : ∀ g, v.ownBlock = some g → ¬ u.ownBlock = some g := fun _ hg hu => h _ hu hg
theorem off_n2 {u v : Value} {gu : Nat} (hu : u.ownBlock = some gu) (h : Off2 u v) : ∀ g, v.ownBlock = some g → ¬ g = gu := fun _ hg e => h gu hu (e ▸ hg)
/-- a needle of the front bed gets other loops -/
theorem MachX.slotF (h : MachX w S K p m F B C L D fs bs) {i : Nat} (hi : i < fs.length) (g1 : Chg (fun b => fs[i].ownBlock = some b) w w1) {v' : Value} {l : List Int} (ho : OwnI w1 0 v' l)
    (hb : ∀ g, v'.ownBlock = some g → fs[i].ownBlock = some g ∨ w.heap.size ≤ g) {gF cF : Nat} (hF : F = .slice (some ⟨gF, 0, none⟩) fs.length cF) :
    MachX (w1.setCell ⟨gF, i, none⟩ v') (fun b => S b ∨ w.heap.size ≤ b) K p { m with fr := m.fr.set i l } F B C L D (fs.set i v') bs := by
  have P := h.parts
  have hmi : fs[i] ∈ fs := List.getElem_mem hi
  have oF : F.ownBlock = some gF := by rw [hF]; rfl
  have k2 : Chg (fun b => b = gF) w1 (w1.setCell ⟨gF, i, none⟩ v') := Chg.setCell (Chg.refl (fun b => b = gF) w1) (.inl (show gF = gF from rfl)) _
  have hgF : gF < w.heap.size := (h.f.lt gF oF).2
  have p1 : ¬ fs[i].ownBlock = some p := fun e => P.p fs[i] (by simp [hmi]) p rfl e
  have p2 : ¬ p = gF := fun e => P.p F (by simp) p rfl (by rw [oF, e])
  have kc : ∀ {j : Nat} {u : Value}, CellU w ⟨p, j, none⟩ u → CellU (w1.setCell ⟨gF, i, none⟩ v') ⟨p, j, none⟩ u := fun hc => (hc.keep g1 p1).keep k2 p2
  have kr : ∀ {e : TypeId} {size n : Nat} {v : Value} {xs : List Value}, w.ownsRow 0 e size v n xs → Off2 fs[i] v → Off2 F v → (w1.setCell ⟨gF, i, none⟩ v').ownsRow 0 e size v n xs := fun hr o1 o2 => rowKept (rowKept hr g1 (off_n1 o1)) k2 (off_n2 oF o2)
  have ki : ∀ {v : Value} {xs : List Int}, OwnI w 0 v xs → Off2 fs[i] v → Off2 F v → OwnI (w1.setCell ⟨gF, i, none⟩ v') 0 v xs := fun hr o1 o2 => (hr.kept g1 (off_n1 o1)).kept k2 (off_n2 oF o2)
  obtain ⟨cs, hl⟩ := h.l
  obtain ⟨ds, hds, hdk⟩ := h.d
  have hfr : w1.ownsRow 0 34 1 F fs.length fs := rowKept h.f g1 (off_n1 (P.f _ (by simp [hmi])).symm)
  refine ⟨.inl h.sp, kc h.c0, kc h.c1, kc h.c2, kc h.c3, kc h.c4, kc h.c5, kc h.c6, ?_, kr h.b (P.b _ (by simp [hmi])).symm (P.f _ (by simp)), by simpa using h.fl, h.bl, ?_, ?_,
    kr h.c (P.c _ (by simp [hmi])).symm (P.f _ (by simp)), ⟨cs, kr hl (P.l _ (by simp [hmi])).symm (P.f _ (by simp))⟩, ⟨ds, ki hds (P.d _ (by simp [hmi])).symm (P.f _ (by simp)), hdk⟩, ?_, ?_⟩
  · subst hF
    rw [List.length_set]
    exact ownsRow_set hfr v'
  · intro j hj
    have hj' : j < fs.length := by simpa using hj
    have hjm : fs[j] ∈ fs := List.getElem_mem hj'
    by_cases e : i = j
    · subst e
      rw [List.getElem_set_self, List.getD_eq_getElem?_getD, List.getElem?_set_self (by rw [← h.fl]; exact hi)]
      refine ho.kept k2 (fun g hg e2 => ?_)
      rcases hb g hg with h1 | h1
      · exact (P.f _ (by simp [hmi])) gF oF (e2 ▸ h1)
      · omega
    · rw [List.getElem_set_ne e, List.getD_eq_getElem?_getD, List.getElem?_set_ne e, ← List.getD_eq_getElem?_getD]
      exact ki (h.fi j hj') (pw_get P.ff hi hj' e) (P.f _ (by simp [hjm]))
  · intro j hj
    have hjm : bs[j] ∈ bs := List.getElem_mem hj
    exact ki (h.bi j hj) (P.fb _ hmi _ hjm) (P.f _ (by simp [hjm]))
  · intro v hv g hg
    have hv' : v ∈ F :: B :: C :: L :: D :: (fs ++ bs) ∨ v = v' := by
      simp only [List.mem_cons, List.mem_append] at hv ⊢
      rcases hv with hv | hv | hv | hv | hv | hv | hv
      · simp [hv]
      · simp [hv]
      · simp [hv]
      · simp [hv]
      · simp [hv]
      · rcases List.mem_or_eq_of_mem_set hv with hv | hv
        · simp [hv]
        · simp [hv]
      · simp [hv]
    rcases hv' with hv' | rfl
    · exact .inl (h.own v hv' g hg)
    · rcases hb g hg with h1 | h1
      · exact .inl (h.own _ (by simp [hmi]) g h1)
      · exact .inr h1
  · have := pw_grow h.ap h.all_lt (k := i + 6) (by simp; omega) (v' := v') (fun g hg => by
      have e : (ptr p :: F :: B :: C :: L :: D :: (fs ++ bs))[i + 6]'(by simp; omega) = fs[i] := by
        show (fs ++ bs)[i]'(by simp; omega) = fs[i]
        exact List.getElem_append_left hi
      rw [e]
      exact hb g hg)
    have e2 : (ptr p :: F :: B :: C :: L :: D :: (fs ++ bs)).set (i + 6) v' = ptr p :: F :: B :: C :: L :: D :: (fs.set i v' ++ bs) := by
      show ptr p :: F :: B :: C :: L :: D :: ((fs ++ bs).set i v') = _
      rw [List.set_append_left _ _ hi]
    rwa [e2] at this
/-- a needle of the back bed gets other loops -/
theorem MachX.slotB (h : MachX w S K p m F B C L D fs bs) {i : Nat} (hi : i < bs.length) (g1 : Chg (fun b => bs[i].ownBlock = some b) w w1) {v' : Value} {l : List Int} (ho : OwnI w1 0 v' l)
    (hb : ∀ g, v'.ownBlock = some g → bs[i].ownBlock = some g ∨ w.heap.size ≤ g) {gB cB : Nat} (hB : B = .slice (some ⟨gB, 0, none⟩) bs.length cB) :
    MachX (w1.setCell ⟨gB, i, none⟩ v') (fun b => S b ∨ w.heap.size ≤ b) K p { m with bk := m.bk.set i l } F B C L D fs (bs.set i v') := by
  have P := h.parts
  have hmi : bs[i] ∈ bs := List.getElem_mem hi
  have oB : B.ownBlock = some gB := by rw [hB]; rfl
  have k2 : Chg (fun b => b = gB) w1 (w1.setCell ⟨gB, i, none⟩ v') := Chg.setCell (Chg.refl (fun b => b = gB) w1) (.inl (show gB = gB from rfl)) _
  have hgB : gB < w.heap.size := (h.b.lt gB oB).2
  have p1 : ¬ bs[i].ownBlock = some p := fun e => P.p bs[i] (by simp [hmi]) p rfl e
  have p2 : ¬ p = gB := fun e => P.p B (by simp) p rfl (by rw [oB, e])
  have kc : ∀ {j : Nat} {u : Value}, CellU w ⟨p, j, none⟩ u → CellU (w1.setCell ⟨gB, i, none⟩ v') ⟨p, j, none⟩ u := fun hc => (hc.keep g1 p1).keep k2 p2
  have kr : ∀ {e : TypeId} {size n : Nat} {v : Value} {xs : List Value}, w.ownsRow 0 e size v n xs → Off2 bs[i] v → Off2 B v → (w1.setCell ⟨gB, i, none⟩ v').ownsRow 0 e size v n xs := fun hr o1 o2 => rowKept (rowKept hr g1 (off_n1 o1)) k2 (off_n2 oB o2)
  have ki : ∀ {v : Value} {xs : List Int}, OwnI w 0 v xs → Off2 bs[i] v → Off2 B v → OwnI (w1.setCell ⟨gB, i, none⟩ v') 0 v xs := fun hr o1 o2 => (hr.kept g1 (off_n1 o1)).kept k2 (off_n2 oB o2)
  obtain ⟨cs, hl⟩ := h.l
  obtain ⟨ds, hds, hdk⟩ := h.d
  have hbr : w1.ownsRow 0 34 1 B bs.length bs := rowKept h.b g1 (off_n1 (P.b _ (by simp [hmi])).symm)
  refine ⟨.inl h.sp, kc h.c0, kc h.c1, kc h.c2, kc h.c3, kc h.c4, kc h.c5, kc h.c6, kr h.f (P.f _ (by simp [hmi])).symm (P.f _ (by simp)).symm, ?_, h.fl, by simpa using h.bl, ?_, ?_,
    kr h.c (P.c _ (by simp [hmi])).symm (P.b _ (by simp)), ⟨cs, kr hl (P.l _ (by simp [hmi])).symm (P.b _ (by simp))⟩, ⟨ds, ki hds (P.d _ (by simp [hmi])).symm (P.b _ (by simp)), hdk⟩, ?_, ?_⟩
  · subst hB
    rw [List.length_set]
    exact ownsRow_set hbr v'
  · intro j hj
    have hjm : fs[j] ∈ fs := List.getElem_mem hj
    exact ki (h.fi j hj) (P.fb _ hjm _ hmi).symm (P.b _ (by simp [hjm]))
  · intro j hj
    have hj' : j < bs.length := by simpa using hj
    have hjm : bs[j] ∈ bs := List.getElem_mem hj'
    by_cases e : i = j
    · subst e
      rw [List.getElem_set_self, List.getD_eq_getElem?_getD, List.getElem?_set_self (by rw [← h.bl]; exact hi)]
      refine ho.kept k2 (fun g hg e2 => ?_)
      rcases hb g hg with h1 | h1
      · exact (P.b _ (by simp [hmi])) gB oB (e2 ▸ h1)
      · omega
    · rw [List.getElem_set_ne e, List.getD_eq_getElem?_getD, List.getElem?_set_ne e, ← List.getD_eq_getElem?_getD]
      exact ki (h.bi j hj') (pw_get P.bb hi hj' e) (P.b _ (by simp [hjm]))
  · intro v hv g hg
    have hv' : v ∈ F :: B :: C :: L :: D :: (fs ++ bs) ∨ v = v' := by
      simp only [List.mem_cons, List.mem_append] at hv ⊢
      rcases hv with hv | hv | hv | hv | hv | hv | hv
      · simp [hv]
      · simp [hv]
      · simp [hv]
      · simp [hv]
      · simp [hv]
      · simp [hv]
      · rcases List.mem_or_eq_of_mem_set hv with hv | hv
        · simp [hv]
        · simp [hv]
    rcases hv' with hv' | rfl
    · exact .inl (h.own v hv' g hg)
    · rcases hb g hg with h1 | h1
      · exact .inl (h.own _ (by simp [hmi]) g h1)
      · exact .inr h1
  · have := pw_grow h.ap h.all_lt (k := fs.length + i + 6) (by simp; omega) (v' := v') (fun g hg => by
      have e : (ptr p :: F :: B :: C :: L :: D :: (fs ++ bs))[fs.length + i + 6]'(by simp; omega) = bs[i] := by
        show (fs ++ bs)[fs.length + i]'(by simp; omega) = bs[i]
        rw [List.getElem_append_right (by omega)]
        simp
      rw [e]
      exact hb g hg)
    have e2 : (ptr p :: F :: B :: C :: L :: D :: (fs ++ bs)).set (fs.length + i + 6) v' = ptr p :: F :: B :: C :: L :: D :: (fs ++ bs.set i v') := by
      show ptr p :: F :: B :: C :: L :: D :: ((fs ++ bs).set (fs.length + i) v') = _
      rw [List.set_append_right _ _ (by omega)]
      simp
    rwa [e2] at this
theorem carCells_in : ∀ (cs : List (Bool × Int)) (i : Nat) (b : Bool), i < cs.length → (carCells cs).set (i * 2) (.bool b) = carCells (cs.set i (b, (cs.getD i (false, 0)).2))
  | [], i, _, h => by simp at h
  | c :: cs, 0, b, _ => rfl
  | c :: cs, i + 1, b, h => by
    have := carCells_in cs i b (by simpa using h)
    show (Value.bool c.1 :: .int .i64 c.2 :: carCells cs).set ((i + 1) * 2) _ = Value.bool c.1 :: .int .i64 c.2 :: carCells (cs.set i _)
    rw [show (i + 1) * 2 = i * 2 + 1 + 1 by omega, List.set_cons_succ, List.set_cons_succ, this]
    rfl
theorem carCells_at : ∀ (cs : List (Bool × Int)) (i : Nat) (x : Int), i < cs.length → (carCells cs).set (i * 2 + 1) (.int .i64 x) = carCells (cs.set i ((cs.getD i (false, 0)).1, x))
  | [], i, _, h => by simp at h
  | c :: cs, 0, b, _ => rfl
  | c :: cs, i + 1, b, h => by
    have := carCells_at cs i b (by simpa using h)
    show (Value.bool c.1 :: .int .i64 c.2 :: carCells cs).set ((i + 1) * 2 + 1) _ = Value.bool c.1 :: .int .i64 c.2 :: carCells (cs.set i _)
    rw [show (i + 1) * 2 + 1 = i * 2 + 1 + 1 + 1 by omega, List.set_cons_succ, List.set_cons_succ, this]
    rfl
theorem carCells_get : ∀ (cs : List (Bool × Int)) (i : Nat), i < cs.length → (carCells cs)[i * 2]? = some (.bool (cs.getD i (false, 0)).1) ∧ (carCells cs)[i * 2 + 1]? = some (.int .i64 (cs.getD i (false, 0)).2)
  | [], i, h => by simp at h
  | c :: cs, 0, _ => ⟨rfl, rfl⟩
  | c :: cs, i + 1, h => by
    have := carCells_get cs i (by simpa using h)
    show (Value.bool c.1 :: .int .i64 c.2 :: carCells cs)[(i + 1) * 2]? = _ ∧ (Value.bool c.1 :: .int .i64 c.2 :: carCells cs)[(i + 1) * 2 + 1]? = _
    rw [show (i + 1) * 2 = i * 2 + 1 + 1 by omega]
    simpa using this
/-- a carrier's cell is set -/
theorem MachX.set_car (h : MachX w S K p m F B C L D fs bs) {gC cC j : Nat} (hC : C = .slice (some ⟨gC, 0, none⟩) m.cs.length cC) (u : Value) {cs' : List (Bool × Int)} (hc : (carCells m.cs).set j u = carCells cs') (hl : cs'.length = m.cs.length) :
    MachX (w.setCell ⟨gC, j, none⟩ u) S K p { m with cs := cs' } F B C L D fs bs := by
  have P := h.parts
  have oC : C.ownBlock = some gC := by rw [hC]; rfl
  have k : Chg (fun b => b = gC) w (w.setCell ⟨gC, j, none⟩ u) := Chg.setCell (Chg.refl (fun b => b = gC) w) (.inl (show gC = gC from rfl)) _
  have hp : ¬ p = gC := fun e => P.p C (by simp) p rfl (by rw [oC, e])
  obtain ⟨cs, hll⟩ := h.l
  obtain ⟨ds, hds, hdk⟩ := h.d
  refine ⟨h.sp, h.c0.keep k hp, h.c1.keep k hp, h.c2.keep k hp, h.c3.keep k hp, h.c4.keep k hp, h.c5.keep k hp, h.c6.keep k hp,
    rowKept h.f k (off_n2 oC (P.f C (by simp)).symm), rowKept h.b k (off_n2 oC (P.b C (by simp)).symm), h.fl, h.bl,
    fun i hi => (h.fi i hi).kept k (off_n2 oC (P.c _ (by simp))), fun i hi => (h.bi i hi).kept k (off_n2 oC (P.c _ (by simp))), ?_,
    ⟨cs, rowKept hll k (off_n2 oC (P.c _ (by simp)))⟩, ⟨ds, hds.kept k (off_n2 oC (P.c _ (by simp))), hdk⟩, h.own, h.ap⟩
  have := h.c
  subst hC
  have h2 := ownsRow_set (i := j) this u
  rw [hc] at h2
  show World.ownsRow _ 0 _ 2 _ cs'.length (carCells cs')
  rw [hl]
  exact h2
/-- one loop more -/
theorem MachX.set_loops (h : MachX w S K p m F B C L D fs bs) (g1 : Chg (fun b => L.ownBlock = some b) w w1) {L' : Value} {n : Nat} {cs' : List Value} (ho : w1.ownsRow 0 103 6 L' n cs')
    (hb : ∀ g, L'.ownBlock = some g → L.ownBlock = some g ∨ w.heap.size ≤ g) :
    MachX (w1.setCell ⟨p, 5, none⟩ L') (fun b => S b ∨ w.heap.size ≤ b) K p { m with nl := n } F B C L' D fs bs := by
  have P := h.parts
  have k2 : Chg (fun b => b = p) w1 (w1.setCell ⟨p, 5, none⟩ L') := Chg.setCell (Chg.refl (fun b => b = p) w1) (.inl (show p = p from rfl)) _
  have p1 : ¬ L.ownBlock = some p := fun e => P.p L (by simp) p rfl e
  have hv := h.off_p
  have ne : ∀ i, i ≠ 5 → (⟨p, 5, none⟩ : Addr) ≠ ⟨p, i, none⟩ := fun i hi e => hi (by injection e with _ e _; exact e.symm)
  have kc : ∀ {j : Nat} {u : Value}, j ≠ 5 → CellU w ⟨p, j, none⟩ u → CellU (w1.setCell ⟨p, 5, none⟩ L') ⟨p, j, none⟩ u := fun hj hc => (hc.keep g1 p1).set_other (ne _ hj)
  have kr : ∀ {e : TypeId} {size n : Nat} {v : Value} {xs : List Value}, w.ownsRow 0 e size v n xs → Off2 L v → (∀ g, v.ownBlock = some g → ¬ g = p) → (w1.setCell ⟨p, 5, none⟩ L').ownsRow 0 e size v n xs := fun hr o1 o2 => rowKept (rowKept hr g1 (off_n1 o1)) k2 o2
  have ki : ∀ {v : Value} {xs : List Int}, OwnI w 0 v xs → Off2 L v → (∀ g, v.ownBlock = some g → ¬ g = p) → OwnI (w1.setCell ⟨p, 5, none⟩ L') 0 v xs := fun hr o1 o2 => (hr.kept g1 (off_n1 o1)).kept k2 o2
  obtain ⟨ds, hds, hdk⟩ := h.d
  have hplt := h.c0.lt
  refine ⟨.inl h.sp, kc (by omega) h.c0, kc (by omega) h.c1, kc (by omega) h.c2, kc (by omega) h.c3, kc (by omega) h.c4, (h.c5.keep g1 p1).set_same, kc (by omega) h.c6,
    kr h.f (P.f _ (by simp)).symm (hv _ (by simp)), kr h.b (P.b _ (by simp)).symm (hv _ (by simp)), h.fl, h.bl,
    fun i hi => ki (h.fi i hi) (P.l _ (by simp)) (hv _ (by simp)), fun i hi => ki (h.bi i hi) (P.l _ (by simp)) (hv _ (by simp)),
    kr h.c (P.c _ (by simp)).symm (hv _ (by simp)), ⟨cs', rowKept ho k2 (fun g hg e => ?_)⟩, ⟨ds, ki hds (P.l _ (by simp)) (hv _ (by simp)), hdk⟩, ?_, ?_⟩
  · rcases hb g hg with h1 | h1
    · exact p1 (e ▸ h1)
    · have : g = p := e
      have : p < w.heap.size := hplt
      omega
  · intro v hv g hg
    have hv' : v ∈ F :: B :: C :: L :: D :: (fs ++ bs) ∨ v = L' := by
      simp only [List.mem_cons] at hv ⊢
      rcases hv with hv | hv | hv | hv | hv
      · simp [hv]
      · simp [hv]
      · simp [hv]
      · simp [hv]
      · rcases hv with hv | hv
        · simp [hv]
        · exact .inl (.inr (.inr (.inr (.inr (.inr hv)))))
    rcases hv' with hv' | rfl
    · exact .inl (h.own v hv' g hg)
    · rcases hb g hg with h1 | h1
      · exact .inl (h.own _ (by simp) g h1)
      · exact .inr h1
  · exact pw_grow h.ap h.all_lt (k := 4) (by simp) (v' := L') hb
/-- other dropped loops -/
theorem MachX.set_drops (h : MachX w S K p m F B C L D fs bs) (g1 : Chg (fun b => D.ownBlock = some b) w w1) {D' : Value} {ds' : List Int} {K' : Nat} (ho : OwnI w1 0 D' ds') (hk : ds'.length ≤ K')
    (hb : ∀ g, D'.ownBlock = some g → D.ownBlock = some g ∨ w.heap.size ≤ g) :
    MachX (w1.setCell ⟨p, 6, none⟩ D') (fun b => S b ∨ w.heap.size ≤ b) K' p m F B C L D' fs bs := by
  have P := h.parts
  have k2 : Chg (fun b => b = p) w1 (w1.setCell ⟨p, 6, none⟩ D') := Chg.setCell (Chg.refl (fun b => b = p) w1) (.inl (show p = p from rfl)) _
  have p1 : ¬ D.ownBlock = some p := fun e => P.p D (by simp) p rfl e
  have hv := h.off_p
  have ne : ∀ i, i ≠ 6 → (⟨p, 6, none⟩ : Addr) ≠ ⟨p, i, none⟩ := fun i hi e => hi (by injection e with _ e _; exact e.symm)
  have kc : ∀ {j : Nat} {u : Value}, j ≠ 6 → CellU w ⟨p, j, none⟩ u → CellU (w1.setCell ⟨p, 6, none⟩ D') ⟨p, j, none⟩ u := fun hj hc => (hc.keep g1 p1).set_other (ne _ hj)
  have kr : ∀ {e : TypeId} {size n : Nat} {v : Value} {xs : List Value}, w.ownsRow 0 e size v n xs → Off2 D v → (∀ g, v.ownBlock = some g → ¬ g = p) → (w1.setCell ⟨p, 6, none⟩ D').ownsRow 0 e size v n xs := fun hr o1 o2 => rowKept (rowKept hr g1 (off_n1 o1)) k2 o2
  have ki : ∀ {v : Value} {xs : List Int}, OwnI w 0 v xs → Off2 D v → (∀ g, v.ownBlock = some g → ¬ g = p) → OwnI (w1.setCell ⟨p, 6, none⟩ D') 0 v xs := fun hr o1 o2 => (hr.kept g1 (off_n1 o1)).kept k2 o2
  obtain ⟨cs, hl⟩ := h.l
  have hplt := h.c0.lt
  refine ⟨.inl h.sp, kc (by omega) h.c0, kc (by omega) h.c1, kc (by omega) h.c2, kc (by omega) h.c3, kc (by omega) h.c4, kc (by omega) h.c5, (h.c6.keep g1 p1).set_same,
    kr h.f (P.f _ (by simp)).symm (hv _ (by simp)), kr h.b (P.b _ (by simp)).symm (hv _ (by simp)), h.fl, h.bl,
    fun i hi => ki (h.fi i hi) (P.d _ (by simp)) (hv _ (by simp)), fun i hi => ki (h.bi i hi) (P.d _ (by simp)) (hv _ (by simp)),
    kr h.c (P.c _ (by simp)).symm (hv _ (by simp)), ⟨cs, kr hl (P.l _ (by simp)).symm (hv _ (by simp))⟩, ⟨ds', ho.kept k2 (fun g hg e => ?_), hk⟩, ?_, ?_⟩
  · rcases hb g hg with h1 | h1
    · exact p1 (e ▸ h1)
    · have : g = p := e
      have : p < w.heap.size := hplt
      omega
  · intro v hv g hg
    have hv' : v ∈ F :: B :: C :: L :: D :: (fs ++ bs) ∨ v = D' := by
      simp only [List.mem_cons] at hv ⊢
      rcases hv with hv | hv | hv | hv | hv
      · simp [hv]
      · simp [hv]
      · simp [hv]
      · simp [hv]
      · rcases hv with hv | hv
        · exact .inr hv
        · exact .inl (.inr (.inr (.inr (.inr (.inr hv)))))
    rcases hv' with hv' | rfl
    · exact .inl (h.own v hv' g hg)
    · rcases hb g hg with h1 | h1
      · exact .inl (h.own _ (by simp) g h1)
      · exact .inr h1
  · exact pw_grow h.ap h.all_lt (k := 5) (by simp) (v' := D') hb
/-- the dropped loops are sorted in their place -/
theorem MachX.sort_drops (h : MachX w S K p m F B C L D fs bs) (g1 : Chg (fun b => D.ownBlock = some b) w w1) {ds' : List Int} (ho : OwnI w1 0 D ds') (hk : ds'.length ≤ K) : MachX w1 S K p m F B C L D fs bs := by
  have P := h.parts
  have p1 : ¬ D.ownBlock = some p := fun e => P.p D (by simp) p rfl e
  obtain ⟨cs, hl⟩ := h.l
  exact ⟨h.sp, h.c0.keep g1 p1, h.c1.keep g1 p1, h.c2.keep g1 p1, h.c3.keep g1 p1, h.c4.keep g1 p1, h.c5.keep g1 p1, h.c6.keep g1 p1,
    rowKept h.f g1 (off_n1 (P.f _ (by simp)).symm), rowKept h.b g1 (off_n1 (P.b _ (by simp)).symm), h.fl, h.bl,
    fun i hi => (h.fi i hi).kept g1 (off_n1 (P.d _ (by simp))), fun i hi => (h.bi i hi).kept g1 (off_n1 (P.d _ (by simp))),
    rowKept h.c g1 (off_n1 (P.c _ (by simp)).symm), ⟨cs, rowKept hl g1 (off_n1 (P.l _ (by simp)).symm)⟩, ⟨ds', ho, hk⟩, h.own, h.ap⟩
/-- a block that no part lies in may be left out -/
theorem MachX.without (h : MachX w S K p m F B C L D fs bs) {g0 : Nat} (hp : p ≠ g0) (hv : ∀ v ∈ F :: B :: C :: L :: D :: (fs ++ bs), v.ownBlock ≠ some g0) : MachX w (fun b => S b ∧ b ≠ g0) K p m F B C L D fs bs :=
  ⟨⟨h.sp, hp⟩, h.c0, h.c1, h.c2, h.c3, h.c4, h.c5, h.c6, h.f, h.b, h.fl, h.bl, h.fi, h.bi, h.c, h.l, h.d, fun v hm g hg => ⟨h.own v hm g hg, fun e => hv v hm (e ▸ hg)⟩, h.ap⟩
end
end Go.Proofs.YtiiodfcbpmkodaaGreat
