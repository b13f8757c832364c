/- The knitting machine as a struct's value; it is put into memory; its beds grow. No condition. -/
import Derived.Test.YtiiodfcbpmkodaaGreatMSlot
set_option linter.unusedSimpArgs false
set_option linter.unusedVariables false
namespace Go.Proofs.YtiiodfcbpmkodaaGreat
open Go.ChangeShapes Go.WideShapes Go.ChangeAt Go.RowKit
/-- the machine's parts; its struct is a value -/
structure MachV (w : World) (S : Nat → Prop) (K : Nat) (m : MachM) (F B C L D : Value) (fs bs : List Value) : Prop where
  f : w.ownsRow 0 34 1 F fs.length fs
  b : w.ownsRow 0 34 1 B bs.length bs
  fl : fs.length = m.fr.length
  bl : bs.length = m.bk.length
  fi : ∀ i (h : i < fs.length), OwnI w 0 fs[i] (m.fr.getD i [])
  bi : ∀ i (h : i < bs.length), OwnI w 0 bs[i] (m.bk.getD i [])
  c : w.ownsRow 0 96 2 C m.cs.length (carCells m.cs)
  l : ∃ cs, w.ownsRow 0 103 6 L m.nl cs
  d : ∃ ds, OwnI w 0 D ds ∧ ds.length ≤ K
  own : ∀ v ∈ F :: B :: C :: L :: D :: (fs ++ bs), ∀ g, v.ownBlock = some g → S g
  ap : (F :: B :: C :: L :: D :: (fs ++ bs)).Pairwise Off2
def machVal (m : MachM) (F B C L D : Value) : Value := .agg #[.int .i64 m.wd, .int .i64 m.rack, F, B, C, L, D]
section
variable {w w' w1 : World} {S T : Nat → Prop} {K p : Nat} {m : MachM} {F B C L D : Value} {fs bs : List Value}
theorem MachX.val (h : MachX w S K p m F B C L D fs bs) : MachV w S K m F B C L D fs bs :=
  ⟨h.f, h.b, h.fl, h.bl, h.fi, h.bi, h.c, h.l, h.d, h.own, (List.pairwise_cons.1 h.ap).2⟩
theorem MachV.all_lt (h : MachV w S K m F B C L D fs bs) : ∀ v ∈ F :: B :: C :: L :: D :: (fs ++ bs), ∀ g, v.ownBlock = some g → g < w.heap.size := by
  intro v hv g hg
  rcases List.mem_cons.1 hv with rfl | hv
  · exact (h.f.lt g hg).2
  rcases List.mem_cons.1 hv with rfl | hv
  · exact (h.b.lt g hg).2
  rcases List.mem_cons.1 hv with rfl | hv
  · exact (h.c.lt g hg).2
  rcases List.mem_cons.1 hv with rfl | hv
  · obtain ⟨cs, hl⟩ := h.l; exact (hl.lt g hg).2
  rcases List.mem_cons.1 hv with rfl | hv
  · obtain ⟨ds, hd, _⟩ := h.d; exact (hd.1.lt g hg).2
  rcases List.mem_append.1 hv with hv | hv
  · obtain ⟨i, hi, rfl⟩ := List.getElem_of_mem hv
    exact ((h.fi i hi).1.lt g hg).2
  · obtain ⟨i, hi, rfl⟩ := List.getElem_of_mem hv
    exact ((h.bi i hi).1.lt g hg).2
theorem MachV.keep (h : MachV w S K m F B C L D fs bs) (k : Chg T w w') (hd : ∀ b, b < w.heap.size → S b → ¬ T b) : MachV w' S K m F B C L D fs bs := by
  have hv : ∀ v ∈ F :: B :: C :: L :: D :: (fs ++ bs), ∀ g, v.ownBlock = some g → ¬ T g := fun v hv g hg => hd g (h.all_lt v hv g hg) (h.own v hv g hg)
  obtain ⟨cs, hl⟩ := h.l
  obtain ⟨ds, hds, hdk⟩ := h.d
  exact ⟨rowKept h.f k (hv F (by simp)), rowKept h.b k (hv B (by simp)), h.fl, h.bl,
    fun i hi => (h.fi i hi).kept k (hv _ (by simp)), fun i hi => (h.bi i hi).kept k (hv _ (by simp)),
    rowKept h.c k (hv C (by simp)), ⟨cs, rowKept hl k (hv L (by simp))⟩, ⟨ds, hds.kept k (hv D (by simp)), hdk⟩, h.own, h.ap⟩
theorem MachV.up (h : MachV w S K m F B C L D fs bs) (k : Up w w') : MachV w' S K m F B C L D fs bs := h.keep k fun _ _ _ h => h
theorem MachV.mono (h : MachV w S K m F B C L D fs bs) (hs : ∀ b, b < w.heap.size → S b → T b) : MachV w T K m F B C L D fs bs :=
  ⟨h.f, h.b, h.fl, h.bl, h.fi, h.bi, h.c, h.l, h.d, fun v hv g hg => hs g (h.all_lt v hv g hg) (h.own v hv g hg), h.ap⟩
/-- the struct is put into a box of its own -/
theorem MachV.box (h : MachV w S K m F B C L D fs bs) (hS : NewIn S w) (ty : TypeId) : MachX (w.alloc (.cells #[.int .i64 m.wd, .int .i64 m.rack, F, B, C, L, D] ty)) S K w.heap.size m F B C L D fs bs := by
  have k := (Chg.refl Nowhere w).alloc (.cells #[.int .i64 m.wd, .int .i64 m.rack, F, B, C, L, D] ty)
  have h1 := h.up k
  refine ⟨hS _ (Nat.le_refl _), ⟨cell_new _ _ _ _, frozen_new _ _ _ _⟩, ⟨cell_new _ _ _ _, frozen_new _ _ _ _⟩, ⟨cell_new _ _ _ _, frozen_new _ _ _ _⟩, ⟨cell_new _ _ _ _, frozen_new _ _ _ _⟩, ⟨cell_new _ _ _ _, frozen_new _ _ _ _⟩, ⟨cell_new _ _ _ _, frozen_new _ _ _ _⟩, ⟨cell_new _ _ _ _, frozen_new _ _ _ _⟩,
    h1.f, h1.b, h1.fl, h1.bl, h1.fi, h1.bi, h1.c, h1.l, h1.d, h1.own, List.pairwise_cons.2 ⟨fun v hv g hg hvg => ?_, h1.ap⟩⟩
  have h2 := h.all_lt v hv g hvg
  obtain rfl : w.heap.size = g := by simpa [Value.ownBlock] using hg
  omega
theorem off_fresh {u : Value} (hu : ∀ g, u.ownBlock = some g → w.heap.size ≤ g) {v : Value} (hv : ∀ g, v.ownBlock = some g → g < w.heap.size) : Off2 u v := fun g h1 h2 => by
  have := hu g h1; have := hv g h2; omega
theorem getD_snoc {α : Type} (l : List α) (x d : α) (j : Nat) : (l ++ [x]).getD j d = if j < l.length then l.getD j d else if j = l.length then x else d := by
  simp only [List.getD_eq_getElem?_getD]
  by_cases h : j < l.length
  · rw [if_pos h, List.getElem?_append_left h]
  · rw [if_neg h]
    by_cases h2 : j = l.length
    · subst h2; simp
    · rw [if_neg h2, List.getElem?_eq_none (by simp; omega)]; rfl
/-- the front bed gets one needle more -/
theorem MachX.pushF (h : MachX w S K p m F B C L D fs bs) (hS : NewIn S w) (g1 : Chg (fun b => F.ownBlock = some b) w w1) {F' u : Value} {l : List Int} (hF : w1.ownsRow 0 34 1 F' (fs.length + 1) (fs ++ [u])) (hu : OwnI w1 0 u l)
    (hFb : ∀ b, F'.ownBlock = some b → F.ownBlock = some b ∨ w.heap.size ≤ b) (hub : ∀ b, u.ownBlock = some b → w.heap.size ≤ b) (hne : Off2 F' u) :
    MachX (w1.setCell ⟨p, 2, none⟩ F') S K p { m with fr := m.fr ++ [l] } F' B C L D (fs ++ [u]) bs := by
  have P := h.parts
  have k2 : Chg (fun b => b = p) w1 (w1.setCell ⟨p, 2, none⟩ F') := Chg.setCell (Chg.refl (fun b => b = p) w1) (.inl (show p = p from rfl)) _
  have hpl : p < w.heap.size := h.c0.lt
  have p1 : ¬ F.ownBlock = some p := fun e => P.p F (by simp) p rfl e
  have ne : ∀ i, i ≠ 2 → (⟨p, 2, none⟩ : Addr) ≠ ⟨p, i, none⟩ := fun i hi e => hi (by injection e with _ e _; exact e.symm)
  have kc : ∀ {j : Nat} {x : Value}, j ≠ 2 → CellU w ⟨p, j, none⟩ x → CellU (w1.setCell ⟨p, 2, none⟩ F') ⟨p, j, none⟩ x := fun hj hc => (hc.keep g1 p1).set_other (ne _ hj)
  have np : ∀ {x : Value}, (∀ g, x.ownBlock = some g → g ≠ p) → ∀ g, x.ownBlock = some g → ¬ g = p := fun hx g hg => hx g hg
  have kr : ∀ {e : TypeId} {size n : Nat} {x : Value} {xs : List Value}, w.ownsRow 0 e size x n xs → Off2 F x → Off2 (ptr p) x → (w1.setCell ⟨p, 2, none⟩ F').ownsRow 0 e size x n xs := fun hr o1 o2 => rowKept (rowKept hr g1 (off_n1 o1)) k2 (off_ptr o2)
  have ki : ∀ {x : Value} {xs : List Int}, OwnI w 0 x xs → Off2 F x → Off2 (ptr p) x → OwnI (w1.setCell ⟨p, 2, none⟩ F') 0 x xs := fun hr o1 o2 => (hr.kept g1 (off_n1 o1)).kept k2 (off_ptr o2)
  have hnF : ∀ g, F'.ownBlock = some g → ¬ g = p := fun g hg e => by
    rcases hFb g hg with h1 | h1
    · exact p1 (e ▸ h1)
    · omega
  have hnu : ∀ g, u.ownBlock = some g → ¬ g = p := fun g hg e => by have := hub g hg; omega
  obtain ⟨cs, hl⟩ := h.l
  obtain ⟨ds, hds, hdk⟩ := h.d
  refine ⟨h.sp, kc (by omega) h.c0, kc (by omega) h.c1, (h.c2.keep g1 p1).set_same, kc (by omega) h.c3, kc (by omega) h.c4, kc (by omega) h.c5, kc (by omega) h.c6, ?_, kr h.b (P.f _ (by simp)) (P.p _ (by simp)), ?_, h.bl, ?_, ?_, kr h.c (P.f _ (by simp)) (P.p _ (by simp)),
    ⟨cs, kr hl (P.f _ (by simp)) (P.p _ (by simp))⟩, ⟨ds, ki hds (P.f _ (by simp)) (P.p _ (by simp)), hdk⟩, ?_, ?_⟩
  · rw [List.length_append, List.length_singleton]
    exact rowKept hF k2 hnF
  · simp [h.fl]
  · intro j hj
    rw [getD_snoc]
    by_cases hlt : j < fs.length
    · have hm : fs[j] ∈ fs := List.getElem_mem hlt
      rw [List.getElem_append_left hlt, if_pos (by rw [← h.fl]; exact hlt)]
      exact ki (h.fi j hlt) (P.f _ (by simp [hm])) (P.p _ (by simp [hm]))
    · have hje : j = fs.length := by simp at hj; omega
      subst hje
      rw [if_neg (by rw [← h.fl]; omega), if_pos h.fl]
      simp only [List.getElem_append_right (Nat.le_refl _), Nat.sub_self, List.getElem_cons_zero]
      exact hu.kept k2 hnu
  · intro j hj
    have hm : bs[j] ∈ bs := List.getElem_mem hj
    exact ki (h.bi j hj) (P.f _ (by simp [hm])) (P.p _ (by simp [hm]))
  · intro x hx g hg
    have hx' : x = F' ∨ x = u ∨ x ∈ F :: B :: C :: L :: D :: (fs ++ bs) := by
      simp only [List.mem_cons, List.mem_append, List.not_mem_nil, or_false] at hx ⊢
      rcases hx with hx | hx | hx | hx | hx | (hx | hx) | hx <;> simp [hx]
    rcases hx' with rfl | rfl | hx'
    · rcases hFb g hg with h1 | h1
      · exact h.own F (by simp) g h1
      · exact hS g h1
    · exact hS g (hub g hg)
    · exact h.own x hx' g hg
  · have h1 := pw_grow h.ap h.all_lt (k := 1) (by simp) (v' := F') hFb
    have h2 : (u :: (ptr p :: F' :: B :: C :: L :: D :: (fs ++ bs))).Pairwise Off2 := by
      refine List.pairwise_cons.2 ⟨fun x hx => ?_, h1⟩
      have hx' : x = F' ∨ x ∈ ptr p :: F :: B :: C :: L :: D :: (fs ++ bs) := by
        simp only [List.mem_cons, List.mem_append] at hx ⊢
        rcases hx with hx | hx | hx | hx | hx | hx | hx | hx <;> simp [hx]
      rcases hx' with rfl | hx'
      · exact hne.symm
      · exact off_fresh hub (h.all_lt x hx')
    have h3 : (ptr p :: F' :: B :: C :: L :: D :: (fs ++ [u] ++ bs)) = (ptr p :: F' :: B :: C :: L :: D :: fs) ++ u :: bs := by simp
    rw [h3]
    exact h2.perm (List.perm_middle (l₁ := ptr p :: F' :: B :: C :: L :: D :: fs) (l₂ := bs)).symm (fun {a b} h => Off2.symm h)
/-- the back bed gets one needle more -/
theorem MachX.pushB (h : MachX w S K p m F B C L D fs bs) (hS : NewIn S w) (g1 : Chg (fun b => B.ownBlock = some b) w w1) {B' u : Value} {l : List Int} (hB : w1.ownsRow 0 34 1 B' (bs.length + 1) (bs ++ [u])) (hu : OwnI w1 0 u l)
    (hBb : ∀ b, B'.ownBlock = some b → B.ownBlock = some b ∨ w.heap.size ≤ b) (hub : ∀ b, u.ownBlock = some b → w.heap.size ≤ b) (hne : Off2 B' u) :
    MachX (w1.setCell ⟨p, 3, none⟩ B') S K p { m with bk := m.bk ++ [l] } F B' C L D fs (bs ++ [u]) := by
  have P := h.parts
  have k2 : Chg (fun b => b = p) w1 (w1.setCell ⟨p, 3, none⟩ B') := Chg.setCell (Chg.refl (fun b => b = p) w1) (.inl (show p = p from rfl)) _
  have hpl : p < w.heap.size := h.c0.lt
  have p1 : ¬ B.ownBlock = some p := fun e => P.p B (by simp) p rfl e
  have ne : ∀ i, i ≠ 3 → (⟨p, 3, none⟩ : Addr) ≠ ⟨p, i, none⟩ := fun i hi e => hi (by injection e with _ e _; exact e.symm)
  have kc : ∀ {j : Nat} {x : Value}, j ≠ 3 → CellU w ⟨p, j, none⟩ x → CellU (w1.setCell ⟨p, 3, none⟩ B') ⟨p, j, none⟩ x := fun hj hc => (hc.keep g1 p1).set_other (ne _ hj)
  have kr : ∀ {e : TypeId} {size n : Nat} {x : Value} {xs : List Value}, w.ownsRow 0 e size x n xs → Off2 B x → Off2 (ptr p) x → (w1.setCell ⟨p, 3, none⟩ B').ownsRow 0 e size x n xs := fun hr o1 o2 => rowKept (rowKept hr g1 (off_n1 o1)) k2 (off_ptr o2)
  have ki : ∀ {x : Value} {xs : List Int}, OwnI w 0 x xs → Off2 B x → Off2 (ptr p) x → OwnI (w1.setCell ⟨p, 3, none⟩ B') 0 x xs := fun hr o1 o2 => (hr.kept g1 (off_n1 o1)).kept k2 (off_ptr o2)
  have hnB : ∀ g, B'.ownBlock = some g → ¬ g = p := fun g hg e => by
    rcases hBb g hg with h1 | h1
    · exact p1 (e ▸ h1)
    · omega
  have hnu : ∀ g, u.ownBlock = some g → ¬ g = p := fun g hg e => by have := hub g hg; omega
  obtain ⟨cs, hl⟩ := h.l
  obtain ⟨ds, hds, hdk⟩ := h.d
  refine ⟨h.sp, kc (by omega) h.c0, kc (by omega) h.c1, kc (by omega) h.c2, (h.c3.keep g1 p1).set_same, kc (by omega) h.c4, kc (by omega) h.c5, kc (by omega) h.c6, kr h.f (P.f _ (by simp)).symm (P.p _ (by simp)), ?_, h.fl, ?_, ?_, ?_, kr h.c (P.b _ (by simp)) (P.p _ (by simp)),
    ⟨cs, kr hl (P.b _ (by simp)) (P.p _ (by simp))⟩, ⟨ds, ki hds (P.b _ (by simp)) (P.p _ (by simp)), hdk⟩, ?_, ?_⟩
  · rw [List.length_append, List.length_singleton]
    exact rowKept hB k2 hnB
  · simp [h.bl]
  · intro j hj
    have hm : fs[j] ∈ fs := List.getElem_mem hj
    exact ki (h.fi j hj) (P.b _ (by simp [hm])) (P.p _ (by simp [hm]))
  · intro j hj
    rw [getD_snoc]
    by_cases hlt : j < bs.length
    · have hm : bs[j] ∈ bs := List.getElem_mem hlt
      rw [List.getElem_append_left hlt, if_pos (by rw [← h.bl]; exact hlt)]
      exact ki (h.bi j hlt) (P.b _ (by simp [hm])) (P.p _ (by simp [hm]))
    · have hje : j = bs.length := by simp at hj; omega
      subst hje
      rw [if_neg (by rw [← h.bl]; omega), if_pos h.bl]
      simp only [List.getElem_append_right (Nat.le_refl _), Nat.sub_self, List.getElem_cons_zero]
      exact hu.kept k2 hnu
  · intro x hx g hg
    have hx' : x = B' ∨ x = u ∨ x ∈ F :: B :: C :: L :: D :: (fs ++ bs) := by
      simp only [List.mem_cons, List.mem_append, List.not_mem_nil, or_false] at hx ⊢
      rcases hx with hx | hx | hx | hx | hx | hx | hx | hx <;> simp [hx]
    rcases hx' with rfl | rfl | hx'
    · rcases hBb g hg with h1 | h1
      · exact h.own B (by simp) g h1
      · exact hS g h1
    · exact hS g (hub g hg)
    · exact h.own x hx' g hg
  · have h1 := pw_grow h.ap h.all_lt (k := 2) (by simp) (v' := B') hBb
    have h2 : (u :: (ptr p :: F :: B' :: C :: L :: D :: (fs ++ bs))).Pairwise Off2 := by
      refine List.pairwise_cons.2 ⟨fun x hx => ?_, h1⟩
      have hx' : x = B' ∨ x ∈ ptr p :: F :: B :: C :: L :: D :: (fs ++ bs) := by
        simp only [List.mem_cons, List.mem_append] at hx ⊢
        rcases hx with hx | hx | hx | hx | hx | hx | hx | hx <;> simp [hx]
      rcases hx' with rfl | hx'
      · exact hne.symm
      · exact off_fresh hub (h.all_lt x hx')
    have h3 : (ptr p :: F :: B' :: C :: L :: D :: (fs ++ (bs ++ [u]))) = (ptr p :: F :: B' :: C :: L :: D :: (fs ++ bs)) ++ u :: [] := by simp
    rw [h3]
    refine h2.perm ?_ (fun {a b} h => Off2.symm h)
    have := (List.perm_middle (l₁ := ptr p :: F :: B' :: C :: L :: D :: (fs ++ bs)) (l₂ := []) (a := u)).symm
    rwa [List.append_nil] at this
end
end Go.Proofs.YtiiodfcbpmkodaaGreat
