/- A list on a needle is put in another's place. No condition. -/
import Derived.Test.YtiiodfcbpmkodaaGreatMOff
import Derived.Test.YtiiodfcbpmkodaaGreatRgO
set_option linter.unusedSimpArgs false
set_option linter.unusedVariables false
namespace Go.Proofs.YtiiodfcbpmkodaaGreat
open Go.ChangeShapes Go.WideShapes Go.ChangeAt Go.RowKit
/-- where a list lies: its header's row in the bed -/
def AtN (F B : Value) (fs bs : List Value) (b a : Int) (g : Nat) (v : Value) : Prop :=
  (b = 2 ∧ ∃ c, B = .slice (some ⟨g, 0, none⟩) bs.length c ∧ bs.getD a.toNat (.slice none 0 0) = v ∧ a.toNat < bs.length) ∨ (b = 1 ∧ ∃ c, F = .slice (some ⟨g, 0, none⟩) fs.length c ∧ fs.getD a.toNat (.slice none 0 0) = v ∧ a.toNat < fs.length)
/-- a set of blocks that holds all blocks to come -/
def NewIn (S : Nat → Prop) (w : World) : Prop := ∀ b, w.heap.size ≤ b → S b
theorem NewIn.up {S T : Nat → Prop} {w w' : World} (h : NewIn S w) (k : Chg T w w') : NewIn S w' := fun b hb => h b (Nat.le_trans k.size hb)
section
variable {w w1 : World} {K p g : Nat} {S : Nat → Prop} {m : MachM} {F B C L D v v' : Value} {fs bs : List Value} {b a : Int} {l : List Int}
theorem MachX.at_mem (hv : AtN F B fs bs b a g v) : v ∈ F :: B :: C :: L :: D :: (fs ++ bs) ∧ ∃ u ∈ F :: B :: C :: L :: D :: (fs ++ bs), u.ownBlock = some g := by
  rcases hv with ⟨-, c, hB, hv, hl⟩ | ⟨-, c, hF, hv, hl⟩
  · rw [List.getD_eq_getElem?_getD, List.getElem?_eq_getElem hl, Option.getD_some] at hv
    have hm : v ∈ bs := hv ▸ List.getElem_mem hl
    exact ⟨by simp [hm], B, by simp, by rw [hB]; rfl⟩
  · rw [List.getD_eq_getElem?_getD, List.getElem?_eq_getElem hl, Option.getD_some] at hv
    have hm : v ∈ fs := hv ▸ List.getElem_mem hl
    exact ⟨by simp [hm], F, by simp, by rw [hF]; rfl⟩
def setF (fs : List Value) (b a : Int) (v : Value) : List Value := if b = 2 then fs else fs.set a.toNat v
def setB (bs : List Value) (b a : Int) (v : Value) : List Value := if b = 2 then bs.set a.toNat v else bs
theorem MachX.slotX (h : MachX w S K p m F B C L D fs bs) (hS : NewIn S w) (hv : AtN F B fs bs b a g v) (g1 : Chg (fun x => v.ownBlock = some x) w w1) (ho : OwnI w1 0 v' l)
    (hb : ∀ x, v'.ownBlock = some x → v.ownBlock = some x ∨ w.heap.size ≤ x) :
    MachX (w1.setCell ⟨g, a.toNat, none⟩ v') S K p (setM m b a l) F B C L D (setF fs b a v') (setB bs b a v') := by
  rcases hv with ⟨rfl, c, hB, hv, hl⟩ | ⟨rfl, c, hF, hv, hl⟩
  · rw [List.getD_eq_getElem?_getD, List.getElem?_eq_getElem hl, Option.getD_some] at hv
    subst hv
    have := h.slotB hl g1 ho hb hB
    unfold setM setF setB
    rw [if_pos rfl, if_pos rfl, if_pos rfl]
    exact this.mono fun x _ hx => hx.elim id fun h => hS _ h
  · rw [List.getD_eq_getElem?_getD, List.getElem?_eq_getElem hl, Option.getD_some] at hv
    subst hv
    have := h.slotF hl g1 ho hb hF
    unfold setM setF setB
    rw [if_neg (by decide), if_neg (by decide), if_neg (by decide)]
    exact this.mono fun x _ hx => hx.elim id fun h => hS _ h
theorem MachX.slotG (h : MachX w S K p m F B C L D fs bs) (hv : AtN F B fs bs b a g v) (g1 : Chg (fun x => v.ownBlock = some x) w w1) : Chg S w (w1.setCell ⟨g, a.toNat, none⟩ v') := by
  obtain ⟨hm, u, hu, hug⟩ := MachX.at_mem (C := C) (L := L) (D := D) hv
  exact Chg.setCell (g1.mono fun x _ hx => h.own v hm x hx) (.inl (h.own u hu g hug)) _
theorem MachX.slot (h : MachX w S K p m F B C L D fs bs) (hS : NewIn S w) (hv : AtN F B fs bs b a g v) (g1 : Chg (fun x => v.ownBlock = some x) w w1) (ho : OwnI w1 0 v' l)
    (hb : ∀ x, v'.ownBlock = some x → v.ownBlock = some x ∨ w.heap.size ≤ x) :
    (∃ fs' bs', MachX (w1.setCell ⟨g, a.toNat, none⟩ v') S K p (setM m b a l) F B C L D fs' bs') ∧ Chg S w (w1.setCell ⟨g, a.toNat, none⟩ v') :=
  ⟨⟨_, _, h.slotX hS hv g1 ho hb⟩, h.slotG hv g1⟩
/-- what is left when a list is taken off its needle: no part of it is the machine's any more -/
theorem MachX.slot0 (h : MachX w S K p m F B C L D fs bs) (hS : NewIn S w) (hv : AtN F B fs bs b a g v) :
    MachX (w.setCell ⟨g, a.toNat, none⟩ (.slice none 0 0)) (fun x => S x ∧ v.ownBlock ≠ some x) K p (setM m b a []) F B C L D (setF fs b a (.slice none 0 0)) (setB bs b a (.slice none 0 0)) ∧ Chg S w (w.setCell ⟨g, a.toNat, none⟩ (.slice none 0 0)) := by
  have X := h.slotX hS hv (Chg.refl _ _) (OwnI.nil _ _) (fun x hx => by cases hx)
  refine ⟨?_, h.slotG hv (Chg.refl _ _)⟩
  cases hg : v.ownBlock with
  | none => exact X.mono fun x _ hx => ⟨hx, by simp⟩
  | some g0 =>
    have hm := (MachX.at_mem (C := C) (L := L) (D := D) hv).1
    refine (X.without (g0 := g0) (fun e => h.off_p v hm g0 hg e.symm) ?_).mono fun x _ hx => ⟨hx.1, fun e => hx.2 (Option.some.inj e).symm⟩
    -- every other part lies apart
    have key : ∀ u ∈ F :: B :: C :: L :: D :: (setF fs b a (.slice none 0 0) ++ setB bs b a (.slice none 0 0)), u = .slice none 0 0 ∨ Off2 v u := by
      have P := h.ap
      rw [List.pairwise_cons] at P
      have Q := P.2
      have hq : ∀ (l1 l2 : List Value) (i : Nat) (hi : i < l2.length), (l1 ++ l2).Pairwise Off2 → ∀ u ∈ l1 ++ l2.set i (.slice none 0 0), u = .slice none 0 0 ∨ Off2 l2[i] u := by
        intro l1 l2 i hi hp u hu
        rw [List.pairwise_append] at hp
        rcases List.mem_append.1 hu with hu | hu
        · exact .inr (hp.2.2 u hu _ (List.getElem_mem hi)).symm
        · obtain ⟨j, hj, rfl⟩ := List.getElem_of_mem hu
          have hj' : j < l2.length := by simpa using hj
          by_cases hij : i = j
          · subst hij; exact .inl (by simp)
          · refine .inr ?_
            rw [List.getElem_set_ne hij]
            exact pw_get hp.2.1 hi hj' hij
      intro u hu
      rcases hv with ⟨rfl, c, hB, hv, hl⟩ | ⟨rfl, c, hF, hv, hl⟩
      · rw [List.getD_eq_getElem?_getD, List.getElem?_eq_getElem hl, Option.getD_some] at hv
        have := hq (F :: B :: C :: L :: D :: fs) bs a.toNat hl (by simpa using Q) u (by unfold setF setB at hu; simpa using hu)
        rwa [hv] at this
      · rw [List.getD_eq_getElem?_getD, List.getElem?_eq_getElem hl, Option.getD_some] at hv
        have hp : ((F :: B :: C :: L :: D :: bs) ++ fs).Pairwise Off2 := by
          refine List.Pairwise.perm Q ?_ (fun {a b} h => Off2.symm h)
          simp only [List.cons_append]
          exact (((((List.perm_append_comm).cons _).cons _).cons _).cons _).cons _
        have := hq (F :: B :: C :: L :: D :: bs) fs a.toNat hl hp u (by
          unfold setF setB at hu
          simp only [List.mem_cons, List.mem_append, List.cons_append] at hu ⊢
          simp only [show ¬ ((1 : Int) = 2) by decide, if_false] at hu
          rcases hu with h | h | h | h | h | h | h
          · exact .inl h
          · exact .inr (.inl h)
          · exact .inr (.inr (.inl h))
          · exact .inr (.inr (.inr (.inl h)))
          · exact .inr (.inr (.inr (.inr (.inl h))))
          · exact .inr (.inr (.inr (.inr (.inr (.inr h)))))
          · exact .inr (.inr (.inr (.inr (.inr (.inl h))))))
        rwa [hv] at this
    intro u hu e
    rcases key u hu with h1 | h1
    · rw [h1] at e; cases e
    · exact h1 g0 hg e
end
theorem keepS {w : World} {g i b j : Nat} {u v : Value} (h : w.cell? ⟨b, j, none⟩ = some u) (hn : g ≠ b) : (w.setCell ⟨g, i, none⟩ v).cell? ⟨b, j, none⟩ = some u := by
  rw [World.cell?_setCell_other _ _ _ _ (fun e => hn (by injection e))]
  exact h
theorem Hold.keep {w w' : World} {p : Nat} {b a : Int} {g : Nat} {v : Value} {l : List Int} {T : Nat → Prop} (h : Hold w p b a g v l) (k : Chg T w w') (hp : ¬ T p) (hg : ¬ T g) (hv : ∀ x, v.ownBlock = some x → ¬ T x) : Hold w' p b a g v l :=
  ⟨h.a0, h.hdr.imp (fun ⟨e, n, c, h1, h2, h3, h4⟩ => ⟨e, n, c, h1, h2, h3, h4.keep k hp⟩) (fun ⟨e, n, c, h1, h2, h3, h4⟩ => ⟨e, n, c, h1, h2, h3, h4.keep k hp⟩), h.cell.keep k hg, h.own.kept k hv⟩
/-- two needles on different beds -/
structure Off12 (p g g' : Nat) (v v' : Value) : Prop where
  gg : g ≠ g'
  vg : ¬ v.ownBlock = some g'
  vg' : ¬ v'.ownBlock = some g
  vv : Off2 v v'
  gp : g ≠ p
  gp' : g' ≠ p
  vp : ¬ v.ownBlock = some p
  vp' : ¬ v'.ownBlock = some p
theorem Off12.symm {p g g' : Nat} {v v' : Value} (h : Off12 p g g' v v') : Off12 p g' g v' v := ⟨h.gg.symm, h.vg', h.vg, h.vv.symm, h.gp', h.gp, h.vp', h.vp⟩
theorem MachX.off12 {w : World} {S : Nat → Prop} {K p : Nat} {m : MachM} {F B C L D : Value} {fs bs : List Value} (h : MachX w S K p m F B C L D fs bs) {a a' : Int} {g g' : Nat} {v v' : Value}
    (h1 : AtN F B fs bs 1 a g v) (h2 : AtN F B fs bs 2 a' g' v') : Off12 p g g' v v' := by
  have P := h.parts
  rcases h1 with ⟨h0, _⟩ | ⟨-, c, hF, hv, hl⟩
  · cases h0
  rcases h2 with ⟨-, c', hB, hv', hl'⟩ | ⟨h0, _⟩
  rotate_left
  · cases h0
  rw [List.getD_eq_getElem?_getD, List.getElem?_eq_getElem hl, Option.getD_some] at hv
  rw [List.getD_eq_getElem?_getD, List.getElem?_eq_getElem hl', Option.getD_some] at hv'
  have hm : v ∈ fs := hv ▸ List.getElem_mem hl
  have hm' : v' ∈ bs := hv' ▸ List.getElem_mem hl'
  have oF : F.ownBlock = some g := by rw [hF]; rfl
  have oB : B.ownBlock = some g' := by rw [hB]; rfl
  refine ⟨fun e => P.f B (by simp) g oF (e ▸ oB), fun e => P.b v (by simp [hm]) g' oB e, fun e => P.f v' (by simp [hm']) g oF e, P.fb v hm v' hm', fun e => P.p F (by simp) p rfl (e ▸ oF), fun e => P.p B (by simp) p rfl (e ▸ oB), fun e => P.p v (by simp [hm]) p rfl e, fun e => P.p v' (by simp [hm']) p rfl e⟩
theorem OwnI.intsOwn {w : World} {base : Nat} {v : Value} {xs : List Int} (h : OwnI w base v xs) : Ints w (fun b => v.ownBlock = some b) v xs := by
  obtain ⟨h1, h2⟩ := h
  rcases h1.2 with ⟨rfl, h0⟩ | ⟨g, cap, cur, rfl, hg, hh, h3, h4, h5, h6⟩
  · obtain rfl := List.eq_nil_of_length_eq_zero h0
    exact Ints.nil _ _ _ _ (by omega)
  · refine Ints.of_cells rfl (Array.getElem?_eq_some_iff.1 hh).1 h3 (by unfold Go.maxLen at h4; omega) h2 fun t ht => ?_
    have hc := World.ownsRow.cells (g := g) h1 rfl t (.int .i64 xs[t]) (by simp [ht])
    rw [add_zero] at hc
    exact ⟨hc, by simp [World.frozen?, hh]⟩
end Go.Proofs.YtiiodfcbpmkodaaGreat
