/- A list that lies off the machine is put on a needle. No condition. -/
import Derived.Test.YtiiodfcbpmkodaaGreatMSp1
set_option linter.unusedSimpArgs false
set_option linter.unusedVariables false
set_option maxRecDepth 100000
set_option maxHeartbeats 8000000
namespace Go.Proofs.YtiiodfcbpmkodaaGreat
open Go.ChangeShapes Go.WideShapes Go.ChangeAt Go.RowKit
attribute [local go_sem ↓] Go.wp_at_zero Go.wp_at_succ
theorem pw_grow2 {l : List Value} (h : l.Pairwise Off2) {S : Nat → Prop} (hlt : ∀ v ∈ l, ∀ g, v.ownBlock = some g → S g) {k : Nat} (hk : k < l.length) {v' : Value} (hv : ∀ g, v'.ownBlock = some g → l[k].ownBlock = some g ∨ ¬ S g) : (l.set k v').Pairwise Off2 := by
  rw [List.pairwise_iff_getElem]
  intro i j hi hj hij
  have hi' : i < l.length := by simpa using hi
  have hj' : j < l.length := by simpa using hj
  have key : ∀ q (hq : q < l.length), q ≠ k → Off2 v' l[q] := fun q hq hn g h1 h2 => by
    rcases hv g h1 with h3 | h3
    · exact pw_get h hk hq (Ne.symm hn) g h3 h2
    · exact h3 (hlt _ (List.getElem_mem hq) g h2)
  by_cases e1 : k = i
  · subst e1
    rw [List.getElem_set_self, List.getElem_set_ne (by omega)]
    exact key j hj' (by omega)
  · rw [List.getElem_set_ne e1]
    by_cases e2 : k = j
    · subst e2
      rw [List.getElem_set_self]
      exact (key i hi' (by omega)).symm
    · rw [List.getElem_set_ne e2]
      exact pw_get h hi' hj' (by omega)
section
variable {w w' w1 : World} {S T : Nat → Prop} {K p : Nat} {m : MachM} {F B C L D : Value} {fs bs : List Value}
/-- a needle of the front bed gets other loops -/
theorem MachX.slotF2 (h : MachX w S K p m F B C L D fs bs) {i : Nat} (hi : i < fs.length) (g1 : Chg (fun b => fs[i].ownBlock = some b) w w1) {v' : Value} {l : List Int} (ho : OwnI w1 0 v' l)
    (hb : ∀ g, v'.ownBlock = some g → fs[i].ownBlock = some g ∨ ¬ S g) {gF cF : Nat} (hF : F = .slice (some ⟨gF, 0, none⟩) fs.length cF) :
    MachX (w1.setCell ⟨gF, i, none⟩ v') (fun b => S b ∨ v'.ownBlock = some b) K p { m with fr := m.fr.set i l } F B C L D (fs.set i v') bs := by
  have P := h.parts
  have hmi : fs[i] ∈ fs := List.getElem_mem hi
  have oF : F.ownBlock = some gF := by rw [hF]; rfl
  have k2 : Chg (fun b => b = gF) w1 (w1.setCell ⟨gF, i, none⟩ v') := Chg.setCell (Chg.refl (fun b => b = gF) w1) (.inl (show gF = gF from rfl)) _
  have hgF : gF < w.heap.size := (h.f.lt gF oF).2
  have p1 : ¬ fs[i].ownBlock = some p := fun e => P.p fs[i] (by simp [hmi]) p rfl e
  have p2 : ¬ p = gF := fun e => P.p F (by simp) p rfl (by rw [oF, e])
  have kc : ∀ {j : Nat} {u : Value}, CellU w ⟨p, j, none⟩ u → CellU (w1.setCell ⟨gF, i, none⟩ v') ⟨p, j, none⟩ u := fun hc => (hc.keep g1 p1).keep k2 p2
  have kr : ∀ {e : TypeId} {size n : Nat} {v : Value} {xs : List Value}, w.ownsRow 0 e size v n xs → Off2 fs[i] v → Off2 F v → (w1.setCell ⟨gF, i, none⟩ v').ownsRow 0 e size v n xs := fun hr o1 o2 => rowKept (rowKept hr g1 (off_n1 o1)) k2 (off_n2 oF o2)
  have ki : ∀ {v : Value} {xs : List Int}, OwnI w 0 v xs → Off2 fs[i] v → Off2 F v → OwnI (w1.setCell ⟨gF, i, none⟩ v') 0 v xs := fun hr o1 o2 => (hr.kept g1 (off_n1 o1)).kept k2 (off_n2 oF o2)
  obtain ⟨cs, hl⟩ := h.l
  obtain ⟨ds, hds, hdk⟩ := h.d
  have hfr : w1.ownsRow 0 34 1 F fs.length fs := rowKept h.f g1 (off_n1 (P.f _ (by simp [hmi])).symm)
  refine ⟨.inl h.sp, kc h.c0, kc h.c1, kc h.c2, kc h.c3, kc h.c4, kc h.c5, kc h.c6, ?_, kr h.b (P.b _ (by simp [hmi])).symm (P.f _ (by simp)), by simpa using h.fl, h.bl, ?_, ?_,
    kr h.c (P.c _ (by simp [hmi])).symm (P.f _ (by simp)), ⟨cs, kr hl (P.l _ (by simp [hmi])).symm (P.f _ (by simp))⟩, ⟨ds, ki hds (P.d _ (by simp [hmi])).symm (P.f _ (by simp)), hdk⟩, ?_, ?_⟩
  · subst hF
    rw [List.length_set]
    exact ownsRow_set hfr v'
  · intro j hj
    have hj' : j < fs.length := by simpa using hj
    have hjm : fs[j] ∈ fs := List.getElem_mem hj'
    by_cases e : i = j
    · subst e
      rw [List.getElem_set_self, List.getD_eq_getElem?_getD, List.getElem?_set_self (by rw [← h.fl]; exact hi)]
      refine ho.kept k2 (fun g hg e2 => ?_)
      rcases hb g hg with h1 | h1
      · exact (P.f _ (by simp [hmi])) gF oF (e2 ▸ h1)
      · exact h1 (e2 ▸ h.own F (by simp) gF oF)
    · rw [List.getElem_set_ne e, List.getD_eq_getElem?_getD, List.getElem?_set_ne e, ← List.getD_eq_getElem?_getD]
      exact ki (h.fi j hj') (pw_get P.ff hi hj' e) (P.f _ (by simp [hjm]))
  · intro j hj
    have hjm : bs[j] ∈ bs := List.getElem_mem hj
    exact ki (h.bi j hj) (P.fb _ hmi _ hjm) (P.f _ (by simp [hjm]))
  · intro v hv g hg
    have hv' : v ∈ F :: B :: C :: L :: D :: (fs ++ bs) ∨ v = v' := by
      simp only [List.mem_cons, List.mem_append] at hv ⊢
      rcases hv with hv | hv | hv | hv | hv | hv | hv
      · simp [hv]
      · simp [hv]
      · simp [hv]
      · simp [hv]
      · simp [hv]
      · rcases List.mem_or_eq_of_mem_set hv with hv | hv
        · simp [hv]
        · simp [hv]
      · simp [hv]
    rcases hv' with hv' | rfl
    · exact .inl (h.own v hv' g hg)
    · rcases hb g hg with h1 | h1
      · exact .inl (h.own _ (by simp [hmi]) g h1)
      · exact .inr hg
  · have := pw_grow2 h.ap h.own_all (k := i + 6) (by simp; omega) (v' := v') (fun g hg => by
      have e : (ptr p :: F :: B :: C :: L :: D :: (fs ++ bs))[i + 6]'(by simp; omega) = fs[i] := by
        show (fs ++ bs)[i]'(by simp; omega) = fs[i]
        exact List.getElem_append_left hi
      rw [e]
      exact hb g hg)
    have e2 : (ptr p :: F :: B :: C :: L :: D :: (fs ++ bs)).set (i + 6) v' = ptr p :: F :: B :: C :: L :: D :: (fs.set i v' ++ bs) := by
      show ptr p :: F :: B :: C :: L :: D :: ((fs ++ bs).set i v') = _
      rw [List.set_append_left _ _ hi]
    rwa [e2] at this
/-- a needle of the back bed gets other loops -/
theorem MachX.slotB2 (h : MachX w S K p m F B C L D fs bs) {i : Nat} (hi : i < bs.length) (g1 : Chg (fun b => bs[i].ownBlock = some b) w w1) {v' : Value} {l : List Int} (ho : OwnI w1 0 v' l)
    (hb : ∀ g, v'.ownBlock = some g → bs[i].ownBlock = some g ∨ ¬ S g) {gB cB : Nat} (hB : B = .slice (some ⟨gB, 0, none⟩) bs.length cB) :
    MachX (w1.setCell ⟨gB, i, none⟩ v') (fun b => S b ∨ v'.ownBlock = some b) K p { m with bk := m.bk.set i l } F B C L D fs (bs.set i v') := by
  have P := h.parts
  have hmi : bs[i] ∈ bs := List.getElem_mem hi
  have oB : B.ownBlock = some gB := by rw [hB]; rfl
  have k2 : Chg (fun b => b = gB) w1 (w1.setCell ⟨gB, i, none⟩ v') := Chg.setCell (Chg.refl (fun b => b = gB) w1) (.inl (show gB = gB from rfl)) _
  have hgB : gB < w.heap.size := (h.b.lt gB oB).2
  have p1 : ¬ bs[i].ownBlock = some p := fun e => P.p bs[i] (by simp [hmi]) p rfl e
  have p2 : ¬ p = gB := fun e => P.p B (by simp) p rfl (by rw [oB, e])
  have kc : ∀ {j : Nat} {u : Value}, CellU w ⟨p, j, none⟩ u → CellU (w1.setCell ⟨gB, i, none⟩ v') ⟨p, j, none⟩ u := fun hc => (hc.keep g1 p1).keep k2 p2
  have kr : ∀ {e : TypeId} {size n : Nat} {v : Value} {xs : List Value}, w.ownsRow 0 e size v n xs → Off2 bs[i] v → Off2 B v → (w1.setCell ⟨gB, i, none⟩ v').ownsRow 0 e size v n xs := fun hr o1 o2 => rowKept (rowKept hr g1 (off_n1 o1)) k2 (off_n2 oB o2)
  have ki : ∀ {v : Value} {xs : List Int}, OwnI w 0 v xs → Off2 bs[i] v → Off2 B v → OwnI (w1.setCell ⟨gB, i, none⟩ v') 0 v xs := fun hr o1 o2 => (hr.kept g1 (off_n1 o1)).kept k2 (off_n2 oB o2)
  obtain ⟨cs, hl⟩ := h.l
  obtain ⟨ds, hds, hdk⟩ := h.d
  have hbr : w1.ownsRow 0 34 1 B bs.length bs := rowKept h.b g1 (off_n1 (P.b _ (by simp [hmi])).symm)
  refine ⟨.inl h.sp, kc h.c0, kc h.c1, kc h.c2, kc h.c3, kc h.c4, kc h.c5, kc h.c6, kr h.f (P.f _ (by simp [hmi])).symm (P.f _ (by simp)).symm, ?_, h.fl, by simpa using h.bl, ?_, ?_,
    kr h.c (P.c _ (by simp [hmi])).symm (P.b _ (by simp)), ⟨cs, kr hl (P.l _ (by simp [hmi])).symm (P.b _ (by simp))⟩, ⟨ds, ki hds (P.d _ (by simp [hmi])).symm (P.b _ (by simp)), hdk⟩, ?_, ?_⟩
  · subst hB
    rw [List.length_set]
    exact ownsRow_set hbr v'
  · intro j hj
    have hjm : fs[j] ∈ fs := List.getElem_mem hj
    exact ki (h.fi j hj) (P.fb _ hjm _ hmi).symm (P.b _ (by simp [hjm]))
  · intro j hj
    have hj' : j < bs.length := by simpa using hj
    have hjm : bs[j] ∈ bs := List.getElem_mem hj'
    by_cases e : i = j
    · subst e
      rw [List.getElem_set_self, List.getD_eq_getElem?_getD, List.getElem?_set_self (by rw [← h.bl]; exact hi)]
      refine ho.kept k2 (fun g hg e2 => ?_)
      rcases hb g hg with h1 | h1
      · exact (P.b _ (by simp [hmi])) gB oB (e2 ▸ h1)
      · exact h1 (e2 ▸ h.own B (by simp) gB oB)
    · rw [List.getElem_set_ne e, List.getD_eq_getElem?_getD, List.getElem?_set_ne e, ← List.getD_eq_getElem?_getD]
      exact ki (h.bi j hj') (pw_get P.bb hi hj' e) (P.b _ (by simp [hjm]))
  · intro v hv g hg
    have hv' : v ∈ F :: B :: C :: L :: D :: (fs ++ bs) ∨ v = v' := by
      simp only [List.mem_cons, List.mem_append] at hv ⊢
      rcases hv with hv | hv | hv | hv | hv | hv | hv
      · simp [hv]
      · simp [hv]
      · simp [hv]
      · simp [hv]
      · simp [hv]
      · simp [hv]
      · rcases List.mem_or_eq_of_mem_set hv with hv | hv
        · simp [hv]
        · simp [hv]
    rcases hv' with hv' | rfl
    · exact .inl (h.own v hv' g hg)
    · rcases hb g hg with h1 | h1
      · exact .inl (h.own _ (by simp [hmi]) g h1)
      · exact .inr hg
  · have := pw_grow2 h.ap h.own_all (k := fs.length + i + 6) (by simp; omega) (v' := v') (fun g hg => by
      have e : (ptr p :: F :: B :: C :: L :: D :: (fs ++ bs))[fs.length + i + 6]'(by simp; omega) = bs[i] := by
        show (fs ++ bs)[fs.length + i]'(by simp; omega) = bs[i]
        rw [List.getElem_append_right (by omega)]
        simp
      rw [e]
      exact hb g hg)
    have e2 : (ptr p :: F :: B :: C :: L :: D :: (fs ++ bs)).set (fs.length + i + 6) v' = ptr p :: F :: B :: C :: L :: D :: (fs ++ bs.set i v') := by
      show ptr p :: F :: B :: C :: L :: D :: ((fs ++ bs).set (fs.length + i) v') = _
      rw [List.set_append_right _ _ (by omega)]
      simp
    rwa [e2] at this
theorem MachX.slotX2 {b a : Int} {g : Nat} {v v' : Value} {l : List Int} (h : MachX w S K p m F B C L D fs bs) (hv : AtN F B fs bs b a g v) (g1 : Up w w1) (ho : OwnI w1 0 v' l)
    (hb : ∀ x, v'.ownBlock = some x → v.ownBlock = some x ∨ ¬ (S x ∧ x < w.heap.size)) :
    MachX (w1.setCell ⟨g, a.toNat, none⟩ v') (fun x => S x ∨ v'.ownBlock = some x) K p (setM m b a l) F B C L D (setF fs b a v') (setB bs b a v') := by
  have h := h.mono (T := fun x => S x ∧ x < w.heap.size) fun x h1 h2 => ⟨h2, h1⟩
  rcases hv with ⟨rfl, c, hB, hv, hl⟩ | ⟨rfl, c, hF, hv, hl⟩
  · rw [List.getD_eq_getElem?_getD, List.getElem?_eq_getElem hl, Option.getD_some] at hv
    subst hv
    have := h.slotB2 hl (Chg.of_up g1) ho hb hB
    unfold setM setF setB
    rw [if_pos rfl, if_pos rfl, if_pos rfl]
    exact this.mono fun x _ hx => hx.imp And.left id
  · rw [List.getD_eq_getElem?_getD, List.getElem?_eq_getElem hl, Option.getD_some] at hv
    subst hv
    have := h.slotF2 hl (Chg.of_up g1) ho hb hF
    unfold setM setF setB
    rw [if_neg (by decide), if_neg (by decide), if_neg (by decide)]
    exact this.mono fun x _ hx => hx.imp And.left id
end
theorem l07Put_1 (w0 w : World) (k0 : Up w0 w) {S : Nat → Prop} {K p : Nat} {m : MachM} {F B C L D : Value} {fs bs : List Value} (h : MachX w0 S K p m F B C L D fs bs) {a : Int} {g : Nat} {v : Value} {l0 : List Int} (hv : AtN F B fs bs 1 a g v) (hH : Hold w0 p 1 a g v l0) {A' : Option Addr} {c' : Nat} {l' : List Int} (ho : OwnI w 0 (.slice A' l'.length c') l') (hb : ∀ x, (Value.slice A' l'.length c').ownBlock = some x → v.ownBlock = some x ∨ ¬ (S x ∧ x < w0.heap.size)) :
    Calls Tryz.prog 51 #[.pointer (some ⟨p, 0, none⟩), .agg #[.int .i64 1, .int .i64 a], .slice A' l'.length c'] w fun e w' => e = .returned (.tuple #[]) ∧ MachX w' (fun x => S x ∨ (Value.slice A' l'.length c').ownBlock = some x) K p (setM m 1 a l') F B C L D (setF fs 1 a (.slice A' l'.length c')) (setB bs 1 a (.slice A' l'.length c')) ∧ Chg S w0 w' := by
  obtain ⟨i, rfl⟩ : ∃ i : Nat, a = i := ⟨a.toNat, by have := hH.a0; omega⟩
  have hc := (hH.up k0).cell
  have hh := (hH.up k0).hdr
  have hto : ((i : Int)).toNat = i := by omega
  rw [hto] at hc
  have b0 : (0 : Int) ≤ (i : Int) := by omega
  obtain ⟨n, c, h1, h2, h3, h4⟩ : ∃ n c : Nat, (i : Int) < (n : Int) ∧ n ≤ c ∧ c ≤ 9223372036854775807 ∧ CellU w ⟨p, 2, none⟩ (.slice (some ⟨g, 0, none⟩) n c) := by
    rcases hh with ⟨e, n, c, r⟩ | ⟨e, n, c, r⟩
    · cases e
    · exact ⟨n, c, r⟩
  have b1 : i < n := by omega
  have k1 := Lib.hid (Chg.trans k0 ((Chg.refl Nowhere w).alloc (.cells #[.int .i64 1, .int .i64 i] 42)))
  have HX := Lib.hid (h.slotX2 hv k1.out (ho.up ((Chg.refl Nowhere w).alloc (.cells #[.int .i64 1, .int .i64 i] 42))) hb)
  have HG := Lib.hid (h.slotG (v' := .slice A' l'.length c') hv (Chg.of_up k1.out))
  rw [hto] at HX HG
  have e1 := Chg.cell ((Chg.refl Nowhere w).alloc (.cells #[.int .i64 1, .int .i64 i] 42)) h4.1 id
  have e2 := Chg.cell ((Chg.refl Nowhere w).alloc (.cells #[.int .i64 1, .int .i64 i] 42)) hc.1 id
  have f2 := (hc.up ((Chg.refl Nowhere w).alloc (.cells #[.int .i64 1, .int .i64 i] 42))).2
  clear h hv hH k0 hb hh hc h4 ho
  go_enter Tryz.func51, Tryz.ntmps51
  go_wp2_with fail
  refine (l07Bed_1 _ _ _ _ _ e1).mono ?_
  rintro e w' ⟨rfl, rfl⟩
  go_wp2
  go_end0
  exact ⟨rfl, by simpa using HX.out, by simpa using HG.out⟩
theorem l07Put_2 (w0 w : World) (k0 : Up w0 w) {S : Nat → Prop} {K p : Nat} {m : MachM} {F B C L D : Value} {fs bs : List Value} (h : MachX w0 S K p m F B C L D fs bs) {a : Int} {g : Nat} {v : Value} {l0 : List Int} (hv : AtN F B fs bs 2 a g v) (hH : Hold w0 p 2 a g v l0) {A' : Option Addr} {c' : Nat} {l' : List Int} (ho : OwnI w 0 (.slice A' l'.length c') l') (hb : ∀ x, (Value.slice A' l'.length c').ownBlock = some x → v.ownBlock = some x ∨ ¬ (S x ∧ x < w0.heap.size)) :
    Calls Tryz.prog 51 #[.pointer (some ⟨p, 0, none⟩), .agg #[.int .i64 2, .int .i64 a], .slice A' l'.length c'] w fun e w' => e = .returned (.tuple #[]) ∧ MachX w' (fun x => S x ∨ (Value.slice A' l'.length c').ownBlock = some x) K p (setM m 2 a l') F B C L D (setF fs 2 a (.slice A' l'.length c')) (setB bs 2 a (.slice A' l'.length c')) ∧ Chg S w0 w' := by
  obtain ⟨i, rfl⟩ : ∃ i : Nat, a = i := ⟨a.toNat, by have := hH.a0; omega⟩
  have hc := (hH.up k0).cell
  have hh := (hH.up k0).hdr
  have hto : ((i : Int)).toNat = i := by omega
  rw [hto] at hc
  have b0 : (0 : Int) ≤ (i : Int) := by omega
  obtain ⟨n, c, h1, h2, h3, h4⟩ : ∃ n c : Nat, (i : Int) < (n : Int) ∧ n ≤ c ∧ c ≤ 9223372036854775807 ∧ CellU w ⟨p, 3, none⟩ (.slice (some ⟨g, 0, none⟩) n c) := by
    rcases hh with ⟨e, n, c, r⟩ | ⟨e, n, c, r⟩
    · exact ⟨n, c, r⟩
    · cases e
  have b1 : i < n := by omega
  have k1 := Lib.hid (Chg.trans k0 ((Chg.refl Nowhere w).alloc (.cells #[.int .i64 2, .int .i64 i] 42)))
  have HX := Lib.hid (h.slotX2 hv k1.out (ho.up ((Chg.refl Nowhere w).alloc (.cells #[.int .i64 2, .int .i64 i] 42))) hb)
  have HG := Lib.hid (h.slotG (v' := .slice A' l'.length c') hv (Chg.of_up k1.out))
  rw [hto] at HX HG
  have e1 := Chg.cell ((Chg.refl Nowhere w).alloc (.cells #[.int .i64 2, .int .i64 i] 42)) h4.1 id
  have e2 := Chg.cell ((Chg.refl Nowhere w).alloc (.cells #[.int .i64 2, .int .i64 i] 42)) hc.1 id
  have f2 := (hc.up ((Chg.refl Nowhere w).alloc (.cells #[.int .i64 2, .int .i64 i] 42))).2
  clear h hv hH k0 hb hh hc h4 ho
  go_enter Tryz.func51, Tryz.ntmps51
  go_wp2_with fail
  refine (l07Bed_2 _ _ _ _ _ e1).mono ?_
  rintro e w' ⟨rfl, rfl⟩
  go_wp2
  go_end0
  exact ⟨rfl, by simpa using HX.out, by simpa using HG.out⟩
end Go.Proofs.YtiiodfcbpmkodaaGreat
