/- The knitting machine as plain data: what an operation does, the rules of the optimizer; removing a saving keeps a program executable. No condition. -/
import Derived.Test.YtiiodfcbpmkodaaGreatValid
set_option linter.unusedSimpArgs false
set_option linter.unusedVariables false
namespace Go.Proofs.YtiiodfcbpmkodaaGreat
structure MachM where
  wd : Int
  rack : Int
  fr : List (List Int)
  bk : List (List Int)
  cs : List (Bool × Int)
  nl : Nat
def bedOf (m : MachM) (b : Int) : List (List Int) := if b = 2 then m.bk else m.fr
def onM (m : MachM) (b a : Int) : List Int := (bedOf m b).getD a.toNat []
def setM (m : MachM) (b a : Int) (l : List Int) : MachM := if b = 2 then { m with bk := m.bk.set a.toNat l } else { m with fr := m.fr.set a.toNat l }
def placeM (b a r : Int) : Int := if b = 2 then a + r else a
def carAt (m : MachM) (c : Int) : Bool × Int := m.cs.getD (c - 1).toNat (false, 0)
def setCar (m : MachM) (c : Int) (x : Bool × Int) : MachM := { m with cs := m.cs.set (c - 1).toNat x }
def fitsM (m : MachM) (o : OpM) : Bool :=
  if o.kind = 4 ∨ o.kind = 6 ∨ o.kind = 7 then true
  else if o.kind = 8 then !(carAt m o.car).1
  else if o.kind = 9 then (carAt m o.car).1
  else (carAt m o.car).1 && decide ((o.dir = 1 ∧ (carAt m o.car).2 ≤ placeM o.fb o.fa m.rack) ∨ (o.dir = -1 ∧ placeM o.fb o.fa m.rack + 1 ≤ (carAt m o.car).2))
def makesB (k : Int) : Bool := decide (k = 1 ∨ k = 2 ∨ k = 5)
def codeM (m : MachM) (o : OpM) : Int :=
  if fitsM m o = false then 9
  else if makesB o.kind = true ∧ m.nl = 300 then 5
  else if o.kind = 2 ∧ (onM m o.fb o.fa).length = 4 then 5
  else if o.kind = 6 then (if (onM m o.fb o.fa).length = 0 then 7 else 0)
  else if o.kind = 4 ∨ o.kind = 5 then
    (if placeM o.fb o.fa m.rack ≠ placeM o.tb o.ta m.rack then 8
     else if (onM m o.fb o.fa).length = 0 then 7
     else if 4 < (onM m o.fb o.fa).length + (onM m o.tb o.ta).length then 5 else 0)
  else 0
def behindM (m : MachM) (o : OpM) : Int := placeM o.fb o.fa m.rack + (if o.dir = 1 then 1 else 0)
def ridM (m : MachM) (o : OpM) : MachM := setCar m o.car ((carAt m o.car).1, behindM m o)
def loopM (m : MachM) (o : OpM) : MachM := { setM m o.fb o.fa (onM m o.fb o.fa ++ [(m.nl : Int)]) with nl := m.nl + 1 }
def bothM (m : MachM) (o : OpM) : List Int := if o.tb = 2 then onM m o.fb o.fa ++ onM m o.tb o.ta else onM m o.tb o.ta ++ onM m o.fb o.fa
def shiftM (m : MachM) (o : OpM) : MachM := setM (setM m o.tb o.ta (bothM m o)) o.fb o.fa []
def execM (m : MachM) (o : OpM) : MachM :=
  if o.kind = 1 then ridM (loopM (setM m o.fb o.fa []) o) o
  else if o.kind = 2 then ridM (loopM m o) o
  else if o.kind = 3 then ridM m o
  else if o.kind = 4 then shiftM m o
  else if o.kind = 5 then ridM (loopM (shiftM m o) o) o
  else if o.kind = 6 then setM m o.fb o.fa []
  else if o.kind = 7 then { m with rack := o.rack }
  else if o.kind = 8 then setCar m o.car (true, if o.dir = -1 then m.wd + 3 else -3)
  else setCar m o.car (false, 0)
/-- what holds of every machine that is reached -/
structure MInv (m : MachM) : Prop where
  wd : 1 ≤ m.wd ∧ m.wd ≤ 24
  rack : -3 ≤ m.rack ∧ m.rack ≤ 3
  fl : (m.fr.length : Int) = m.wd
  bl : (m.bk.length : Int) = m.wd
  cl : m.cs.length = 4
  fs : ∀ l ∈ m.fr, l.length ≤ 4 ∧ ∀ x ∈ l, 0 ≤ x ∧ x ≤ 300
  bs : ∀ l ∈ m.bk, l.length ≤ 4 ∧ ∀ x ∈ l, 0 ≤ x ∧ x ≤ 300
  ca : ∀ c ∈ m.cs, -100 ≤ c.2 ∧ c.2 ≤ 100 ∧ (c.1 = false → c.2 = 0)
  nl : m.nl ≤ 300
/-- an operation that is valid for a width -/
def okOp (w : Int) (o : OpM) : Prop := validB o = true ∧ o.fa < w ∧ o.ta < w
theorem needle_of {b a : Int} (h : needleB b a = true) : (b = 1 ∨ b = 2) ∧ 0 ≤ a ∧ a ≤ 23 := by
  unfold needleB bedB placeB at h
  simp only [Bool.and_eq_true, decide_eq_true_eq] at h
  exact h
theorem car_of {c : Int} (h : carB c = true) : 1 ≤ c ∧ c ≤ 4 := by unfold carB at h; exact of_decide_eq_true h
theorem dir_of {d : Int} (h : dirB d = true) : d = 1 ∨ d = -1 := by unfold dirB at h; exact of_decide_eq_true h
theorem rack_of {r : Int} (h : rackB r = true) : -3 ≤ r ∧ r ≤ 3 := by unfold rackB at h; exact of_decide_eq_true h
/-- what a valid operation is, by its kind -/
theorem valid_cases {o : OpM} (h : validB o = true) :
    ((o.kind = 1 ∨ o.kind = 2 ∨ o.kind = 3) ∧ (o.dir = 1 ∨ o.dir = -1) ∧ ((o.fb = 1 ∨ o.fb = 2) ∧ 0 ≤ o.fa ∧ o.fa ≤ 23) ∧ (1 ≤ o.car ∧ o.car ≤ 4) ∧ o.tb = 0 ∧ o.ta = 0 ∧ o.rack = 0) ∨
    (o.kind = 4 ∧ ((o.fb = 1 ∨ o.fb = 2) ∧ 0 ≤ o.fa ∧ o.fa ≤ 23) ∧ ((o.tb = 1 ∨ o.tb = 2) ∧ 0 ≤ o.ta ∧ o.ta ≤ 23) ∧ o.fb ≠ o.tb ∧ o.dir = 0 ∧ o.car = 0 ∧ o.rack = 0) ∨
    (o.kind = 5 ∧ ((o.fb = 1 ∨ o.fb = 2) ∧ 0 ≤ o.fa ∧ o.fa ≤ 23) ∧ ((o.tb = 1 ∨ o.tb = 2) ∧ 0 ≤ o.ta ∧ o.ta ≤ 23) ∧ o.fb ≠ o.tb ∧ (o.dir = 1 ∨ o.dir = -1) ∧ (1 ≤ o.car ∧ o.car ≤ 4) ∧ o.rack = 0) ∨
    (o.kind = 6 ∧ ((o.fb = 1 ∨ o.fb = 2) ∧ 0 ≤ o.fa ∧ o.fa ≤ 23) ∧ o.dir = 0 ∧ o.tb = 0 ∧ o.ta = 0 ∧ o.car = 0 ∧ o.rack = 0) ∨
    (o.kind = 7 ∧ (-3 ≤ o.rack ∧ o.rack ≤ 3) ∧ o.dir = 0 ∧ o.fb = 0 ∧ o.fa = 0 ∧ o.tb = 0 ∧ o.ta = 0 ∧ o.car = 0) ∨
    (o.kind = 8 ∧ (o.dir = 1 ∨ o.dir = -1) ∧ (1 ≤ o.car ∧ o.car ≤ 4) ∧ o.fb = 0 ∧ o.fa = 0 ∧ o.tb = 0 ∧ o.ta = 0 ∧ o.rack = 0) ∨
    (o.kind = 9 ∧ (1 ≤ o.car ∧ o.car ≤ 4) ∧ o.dir = 0 ∧ o.fb = 0 ∧ o.fa = 0 ∧ o.tb = 0 ∧ o.ta = 0 ∧ o.rack = 0) := by
  unfold validB at h
  by_cases h1 : o.kind = 1 ∨ o.kind = 2 ∨ o.kind = 3
  · rw [if_pos h1] at h
    simp only [Bool.and_eq_true, beq_iff_eq] at h
    exact .inl ⟨h1, dir_of h.1.1.1.1.1, needle_of h.1.1.1.1.2, car_of h.1.1.1.2, h.1.1.2, h.1.2, h.2⟩
  rw [if_neg h1] at h
  by_cases h4 : o.kind = 4
  · rw [if_pos h4] at h
    simp only [Bool.and_eq_true, beq_iff_eq, bne_iff_ne] at h
    exact .inr (.inl ⟨h4, needle_of h.1.1.1.1.1, needle_of h.1.1.1.1.2, h.1.1.1.2, h.1.1.2, h.1.2, h.2⟩)
  rw [if_neg h4] at h
  by_cases h5 : o.kind = 5
  · rw [if_pos h5] at h
    simp only [Bool.and_eq_true, beq_iff_eq, bne_iff_ne] at h
    exact .inr (.inr (.inl ⟨h5, needle_of h.1.1.1.1.1, needle_of h.1.1.1.1.2, h.1.1.1.2, dir_of h.1.1.2, car_of h.1.2, h.2⟩))
  rw [if_neg h5] at h
  by_cases h6 : o.kind = 6
  · rw [if_pos h6] at h
    simp only [Bool.and_eq_true, beq_iff_eq] at h
    exact .inr (.inr (.inr (.inl ⟨h6, needle_of h.1.1.1.1.1, h.1.1.1.1.2, h.1.1.1.2, h.1.1.2, h.1.2, h.2⟩)))
  rw [if_neg h6] at h
  by_cases h7 : o.kind = 7
  · rw [if_pos h7] at h
    simp only [Bool.and_eq_true, beq_iff_eq] at h
    exact .inr (.inr (.inr (.inr (.inl ⟨h7, rack_of h.1.1.1.1.1.1, h.1.1.1.1.1.2, h.1.1.1.1.2, h.1.1.1.2, h.1.1.2, h.1.2, h.2⟩))))
  rw [if_neg h7] at h
  by_cases h8 : o.kind = 8
  · rw [if_pos h8] at h
    simp only [Bool.and_eq_true, beq_iff_eq] at h
    exact .inr (.inr (.inr (.inr (.inr (.inl ⟨h8, dir_of h.1.1.1.1.1.1, car_of h.1.1.1.1.1.2, h.1.1.1.1.2, h.1.1.1.2, h.1.1.2, h.1.2, h.2⟩)))))
  rw [if_neg h8] at h
  by_cases h9 : o.kind = 9
  · rw [if_pos h9] at h
    simp only [Bool.and_eq_true, beq_iff_eq] at h
    exact .inr (.inr (.inr (.inr (.inr (.inr ⟨h9, car_of h.1.1.1.1.1.1, h.1.1.1.1.1.2, h.1.1.1.1.2, h.1.1.1.2, h.1.1.2, h.1.2, h.2⟩)))))
  rw [if_neg h9] at h
  cases h
/-- a needle of a machine -/
def okN (m : MachM) (b a : Int) : Prop := (b = 1 ∨ b = 2) ∧ 0 ≤ a ∧ a < m.wd
theorem MInv.bed {m : MachM} (h : MInv m) (b : Int) : ((bedOf m b).length : Int) = m.wd ∧ ∀ l ∈ bedOf m b, l.length ≤ 4 ∧ ∀ x ∈ l, 0 ≤ x ∧ x ≤ 300 := by
  unfold bedOf
  split
  · exact ⟨h.bl, h.bs⟩
  · exact ⟨h.fl, h.fs⟩
theorem MInv.on_ {m : MachM} (h : MInv m) (b a : Int) : (onM m b a).length ≤ 4 ∧ ∀ x ∈ onM m b a, 0 ≤ x ∧ x ≤ 300 := by
  unfold onM
  rw [List.getD_eq_getElem?_getD]
  rcases hh : (bedOf m b)[a.toNat]? with _ | l
  · simp
  · exact (h.bed b).2 l (List.mem_of_getElem? hh)
theorem MInv.setM_ {m : MachM} (h : MInv m) (b a : Int) {l : List Int} (hl : l.length ≤ 4 ∧ ∀ x ∈ l, 0 ≤ x ∧ x ≤ 300) : MInv (setM m b a l) := by
  unfold setM
  split
  · exact ⟨h.wd, h.rack, h.fl, by simpa using h.bl, h.cl, h.fs, fun k hk => (List.mem_or_eq_of_mem_set hk).elim (h.bs k) (fun e => e ▸ hl), h.ca, h.nl⟩
  · exact ⟨h.wd, h.rack, by simpa using h.fl, h.bl, h.cl, fun k hk => (List.mem_or_eq_of_mem_set hk).elim (h.fs k) (fun e => e ▸ hl), h.bs, h.ca, h.nl⟩
theorem MInv.setCar_ {m : MachM} (h : MInv m) (c : Int) {x : Bool × Int} (hx : -100 ≤ x.2 ∧ x.2 ≤ 100 ∧ (x.1 = false → x.2 = 0)) : MInv (setCar m c x) :=
  ⟨h.wd, h.rack, h.fl, h.bl, by simpa [setCar] using h.cl, h.fs, h.bs, fun k hk => (List.mem_or_eq_of_mem_set hk).elim (h.ca k) (fun e => e ▸ hx), h.nl⟩
theorem setM_same {m : MachM} (b a : Int) (l : List Int) : (setM m b a l).wd = m.wd ∧ (setM m b a l).rack = m.rack ∧ (setM m b a l).cs = m.cs ∧ (setM m b a l).nl = m.nl := by
  unfold setM; split <;> exact ⟨rfl, rfl, rfl, rfl⟩
theorem bedOf_setM (m : MachM) (b a : Int) (l : List Int) : bedOf (setM m b a l) b = (bedOf m b).set a.toNat l := by
  unfold setM bedOf
  split
  · rfl
  · rfl
theorem onM_setM {m : MachM} (h : MInv m) {b a : Int} (l : List Int) (ha : 0 ≤ a ∧ a < m.wd) : onM (setM m b a l) b a = l := by
  unfold onM
  rw [bedOf_setM, List.getD_eq_getElem?_getD, List.getElem?_set_self (by have := (h.bed b).1; omega)]
  rfl
theorem carAt_fits {m : MachM} (h : MInv m) {c : Int} (hc : 1 ≤ c ∧ c ≤ 4) : -100 ≤ (carAt m c).2 ∧ (carAt m c).2 ≤ 100 ∧ ((carAt m c).1 = false → (carAt m c).2 = 0) := by
  unfold carAt
  have hlt : (c - 1).toNat < m.cs.length := by rw [h.cl]; omega
  rw [List.getD_eq_getElem?_getD, List.getElem?_eq_getElem hlt, Option.getD_some]
  exact h.ca _ (List.getElem_mem hlt)
theorem placeM_bd {b a r : Int} (ha : 0 ≤ a ∧ a ≤ 23) (hr : -3 ≤ r ∧ r ≤ 3) : -3 ≤ placeM b a r ∧ placeM b a r ≤ 26 := by unfold placeM; split <;> omega
theorem behindM_bd {m : MachM} (h : MInv m) {o : OpM} (ha : 0 ≤ o.fa ∧ o.fa ≤ 23) : -3 ≤ behindM m o ∧ behindM m o ≤ 27 := by
  have := placeM_bd (b := o.fb) ha h.rack
  unfold behindM
  split <;> omega
theorem MInv.rid {m : MachM} (h : MInv m) {o : OpM} (ha : 0 ≤ o.fa ∧ o.fa ≤ 23) (hin : (carAt m o.car).1 = true) : MInv (ridM m o) := by
  have := behindM_bd h ha
  exact h.setCar_ _ ⟨by omega, by omega, fun hh => by rw [hin] at hh; cases hh⟩
theorem MInv.loop {m : MachM} (h : MInv m) {o : OpM} (h1 : (onM m o.fb o.fa).length ≤ 3) (h2 : m.nl < 300) : MInv (loopM m o) := by
  have h3 := (h.on_ o.fb o.fa).2
  have h4 := h.setM_ o.fb o.fa (l := onM m o.fb o.fa ++ [(m.nl : Int)]) ⟨by simp; omega, fun x hx => by
    rcases List.mem_append.1 hx with hx | hx
    · exact h3 x hx
    · simp at hx; omega⟩
  exact ⟨h4.wd, h4.rack, h4.fl, h4.bl, h4.cl, h4.fs, h4.bs, h4.ca, by show m.nl + 1 ≤ 300; omega⟩
theorem bothM_ok {m : MachM} (h : MInv m) {o : OpM} (hl : (onM m o.fb o.fa).length + (onM m o.tb o.ta).length ≤ 4) : (bothM m o).length ≤ 4 ∧ ∀ x ∈ bothM m o, 0 ≤ x ∧ x ≤ 300 := by
  have h1 := (h.on_ o.fb o.fa).2
  have h2 := (h.on_ o.tb o.ta).2
  unfold bothM
  split
  · exact ⟨by simp; omega, fun x hx => (List.mem_append.1 hx).elim (h1 x) (h2 x)⟩
  · exact ⟨by simp; omega, fun x hx => (List.mem_append.1 hx).elim (h2 x) (h1 x)⟩
theorem MInv.shift {m : MachM} (h : MInv m) {o : OpM} (hl : (onM m o.fb o.fa).length + (onM m o.tb o.ta).length ≤ 4) : MInv (shiftM m o) :=
  (h.setM_ _ _ (bothM_ok h hl)).setM_ _ _ ⟨by simp, by simp⟩
/-- what it means that an operation can be carried out -/
theorem code_zero {m : MachM} {o : OpM} (h : codeM m o = 0) :
    fitsM m o = true ∧ (makesB o.kind = true → m.nl ≠ 300) ∧ (o.kind = 2 → (onM m o.fb o.fa).length ≠ 4) ∧ (o.kind = 6 → (onM m o.fb o.fa).length ≠ 0) ∧
    (o.kind = 4 ∨ o.kind = 5 → placeM o.fb o.fa m.rack = placeM o.tb o.ta m.rack ∧ (onM m o.fb o.fa).length ≠ 0 ∧ (onM m o.fb o.fa).length + (onM m o.tb o.ta).length ≤ 4) := by
  unfold codeM at h
  by_cases h1 : fitsM m o = false
  · rw [if_pos h1] at h; omega
  rw [if_neg h1] at h
  by_cases h2 : makesB o.kind = true ∧ m.nl = 300
  · rw [if_pos h2] at h; omega
  rw [if_neg h2] at h
  by_cases h3 : o.kind = 2 ∧ (onM m o.fb o.fa).length = 4
  · rw [if_pos h3] at h; omega
  rw [if_neg h3] at h
  refine ⟨by simpa using h1, fun a b => h2 ⟨a, b⟩, fun a b => h3 ⟨a, b⟩, fun h6 => ?_, fun h45 => ?_⟩
  · rw [if_pos h6] at h
    intro hh
    rw [if_pos hh] at h
    omega
  · rw [if_neg (by omega), if_pos h45] at h
    by_cases h4 : placeM o.fb o.fa m.rack ≠ placeM o.tb o.ta m.rack
    · rw [if_pos h4] at h; omega
    rw [if_neg h4] at h
    by_cases h5 : (onM m o.fb o.fa).length = 0
    · rw [if_pos h5] at h; omega
    rw [if_neg h5] at h
    by_cases h6 : 4 < (onM m o.fb o.fa).length + (onM m o.tb o.ta).length
    · rw [if_pos h6] at h; omega
    exact ⟨by simpa using h4, h5, by omega⟩
theorem fits_in {m : MachM} {o : OpM} (h : fitsM m o = true) (hk : o.kind = 1 ∨ o.kind = 2 ∨ o.kind = 3 ∨ o.kind = 5) : (carAt m o.car).1 = true ∧ ((o.dir = 1 ∧ (carAt m o.car).2 ≤ placeM o.fb o.fa m.rack) ∨ (o.dir = -1 ∧ placeM o.fb o.fa m.rack + 1 ≤ (carAt m o.car).2)) := by
  unfold fitsM at h
  rw [if_neg (by omega), if_neg (by omega), if_neg (by omega), Bool.and_eq_true, decide_eq_true_eq] at h
  exact h
theorem MInv.exec {m : MachM} (h : MInv m) {o : OpM} (ho : okOp m.wd o) (hc : codeM m o = 0) : MInv (execM m o) := by
  obtain ⟨hv, hf, ht⟩ := ho
  obtain ⟨c1, c2, c3, c4, c5⟩ := code_zero hc
  unfold execM
  rcases valid_cases hv with ⟨hk, hd, hn, hcar, _⟩ | ⟨hk, hn, hn2, _⟩ | ⟨hk, hn, hn2, _, hd, hcar, _⟩ | ⟨hk, hn, _⟩ | ⟨hk, hr, _⟩ | ⟨hk, hd, hcar, _⟩ | ⟨hk, hcar, _⟩
  · have hin := (fits_in c1 (by omega)).1
    rcases hk with hk | hk | hk
    · rw [if_pos hk]
      have h0 := h.setM_ o.fb o.fa (l := []) ⟨by simp, by simp⟩
      have he : onM (setM m o.fb o.fa []) o.fb o.fa = [] := onM_setM h [] ⟨hn.2.1, hf⟩
      have hs := setM_same (m := m) o.fb o.fa []
      have h1 := h0.loop (o := o) (by rw [he]; simp) (by rw [hs.2.2.2]; have := c2 (by unfold makesB; simp [hk]); have := h.nl; omega)
      refine h1.rid hn.2 ?_
      show (carAt (setM (setM m o.fb o.fa []) o.fb o.fa _) o.car).1 = true
      unfold carAt at hin ⊢
      rw [(setM_same _ _ _).2.2.1, hs.2.2.1]
      exact hin
    · rw [if_neg (by omega), if_pos hk]
      have h1 := h.loop (o := o) (by have := (h.on_ o.fb o.fa).1; have := c3 hk; omega) (by have := c2 (by unfold makesB; simp [hk]); have := h.nl; omega)
      refine h1.rid hn.2 ?_
      show (carAt (setM m o.fb o.fa _) o.car).1 = true
      unfold carAt at hin ⊢
      rw [(setM_same _ _ _).2.2.1]
      exact hin
    · rw [if_neg (by omega), if_neg (by omega), if_pos hk]
      exact h.rid hn.2 hin
  · rw [if_neg (by omega), if_neg (by omega), if_neg (by omega), if_pos hk]
    exact h.shift (c5 (.inl hk)).2.2
  · rw [if_neg (by omega), if_neg (by omega), if_neg (by omega), if_neg (by omega), if_pos hk]
    have hin := (fits_in c1 (by omega)).1
    have h0 := h.shift (c5 (.inr hk)).2.2
    have he : onM (shiftM m o) o.fb o.fa = [] := onM_setM (h.setM_ _ _ (bothM_ok h (c5 (.inr hk)).2.2)) [] ⟨hn.2.1, by rw [(setM_same _ _ _).1]; exact hf⟩
    have hnl : (shiftM m o).nl = m.nl := by unfold shiftM; rw [(setM_same _ _ _).2.2.2, (setM_same _ _ _).2.2.2]
    have h1 := h0.loop (o := o) (by rw [he]; simp) (by rw [hnl]; have := c2 (by unfold makesB; simp [hk]); have := h.nl; omega)
    refine h1.rid hn.2 ?_
    show (carAt (setM (shiftM m o) o.fb o.fa _) o.car).1 = true
    unfold carAt at hin ⊢
    rw [(setM_same _ _ _).2.2.1]
    unfold shiftM
    rw [(setM_same _ _ _).2.2.1, (setM_same _ _ _).2.2.1]
    exact hin
  · rw [if_neg (by omega), if_neg (by omega), if_neg (by omega), if_neg (by omega), if_neg (by omega), if_pos hk]
    exact h.setM_ _ _ ⟨by simp, by simp⟩
  · rw [if_neg (by omega), if_neg (by omega), if_neg (by omega), if_neg (by omega), if_neg (by omega), if_neg (by omega), if_pos hk]
    exact ⟨h.wd, hr, h.fl, h.bl, h.cl, h.fs, h.bs, h.ca, h.nl⟩
  · rw [if_neg (by omega), if_neg (by omega), if_neg (by omega), if_neg (by omega), if_neg (by omega), if_neg (by omega), if_neg (by omega), if_pos hk]
    refine h.setCar_ _ ?_
    have := h.wd
    dsimp only
    split <;> refine ⟨by omega, by omega, fun hh => by cases hh⟩
  · rw [if_neg (by omega), if_neg (by omega), if_neg (by omega), if_neg (by omega), if_neg (by omega), if_neg (by omega), if_neg (by omega), if_neg (by omega)]
    exact h.setCar_ _ ⟨by simp, by simp, by simp⟩
theorem execM_wd (m : MachM) (o : OpM) : (execM m o).wd = m.wd := by
  unfold execM ridM loopM shiftM setCar
  repeat' split
  all_goals (first | rfl | (simp only [(setM_same _ _ _).1]))
def runM : MachM → List OpM → Int
  | _, [] => 0
  | m, o :: os => if codeM m o = 0 then runM (execM m o) os else codeM m o
def newM (w : Int) : MachM := ⟨w, 0, List.replicate w.toNat [], List.replicate w.toNat [], List.replicate 4 (false, 0), 0⟩
theorem newM_inv {w : Int} (h : 1 ≤ w ∧ w ≤ 24) : MInv (newM w) := by
  refine ⟨h, by simp [newM], by simp [newM]; omega, by simp [newM]; omega, by simp [newM], ?_, ?_, ?_, by simp [newM]⟩
  · intro l hl; have := List.eq_of_mem_replicate hl; subst this; simp
  · intro l hl; have := List.eq_of_mem_replicate hl; subst this; simp
  · intro l hl; have := List.eq_of_mem_replicate hl; subst this; simp
def yarnB (k : Int) : Bool := decide (k = 1 ∨ k = 2 ∨ k = 3 ∨ k = 5)
def ruleM (m : MachM) (o n : OpM) : Int :=
  if o.kind = 7 then (if o.rack = m.rack then 1 else if n.kind = 7 then 2 else 0)
  else if o.kind = 3 then (if yarnB n.kind = true ∧ n.car = o.car ∧ n.dir = o.dir ∧ 0 < (placeM n.fb n.fa m.rack - placeM o.fb o.fa m.rack) * o.dir then 3 else 0)
  else if o.kind = 4 then (if (onM m o.tb o.ta).length = 0 ∧ n.kind = 4 ∧ n.fb = o.tb ∧ n.fa = o.ta ∧ n.tb = o.fb ∧ n.ta = o.fa then 4 else 0)
  else if o.kind = 8 then (if n.kind = 9 ∧ n.car = o.car then 5 else 0)
  else 0
def opZ : OpM := ⟨0, 0, 0, 0, 0, 0, 0, 0⟩
def rulesM : MachM → List OpM → List Int
  | _, [] => []
  | m, o :: os => ruleM m o (os.headD opZ) :: rulesM (execM m o) os
theorem rulesM_length : ∀ (m : MachM) (ops : List OpM), (rulesM m ops).length = ops.length
  | _, [] => rfl
  | m, o :: os => by simp [rulesM, rulesM_length (execM m o) os]
def cutN (r : Int) : Nat := if r = 4 ∨ r = 5 then 2 else 1
def cutM (ops : List OpM) (r : Int) (i : Nat) : List OpM := ops.take i ++ ops.drop (i + cutN r)
theorem run_two {m : MachM} {a b : OpM} {os : List OpM} (h : runM m (a :: b :: os) = 0) : codeM m a = 0 ∧ codeM (execM m a) b = 0 ∧ runM (execM (execM m a) b) os = 0 := by
  unfold runM at h
  by_cases h1 : codeM m a = 0
  · rw [if_pos h1] at h
    unfold runM at h
    by_cases h2 : codeM (execM m a) b = 0
    · rw [if_pos h2] at h; exact ⟨h1, h2, h⟩
    · rw [if_neg h2] at h; exact absurd h h2
  · rw [if_neg h1] at h; exact absurd h h1
theorem run_one {m : MachM} {a : OpM} {os : List OpM} (h : runM m (a :: os) = 0) : codeM m a = 0 ∧ runM (execM m a) os = 0 := by
  unfold runM at h
  by_cases h1 : codeM m a = 0
  · rw [if_pos h1] at h; exact ⟨h1, h⟩
  · rw [if_neg h1] at h; exact absurd h h1
theorem run_cons {m : MachM} {a : OpM} {os : List OpM} (h1 : codeM m a = 0) (h : runM (execM m a) os = 0) : runM m (a :: os) = 0 := by unfold runM; rw [if_pos h1]; exact h
theorem exec7 {m : MachM} {o : OpM} (h : o.kind = 7) : execM m o = { m with rack := o.rack } := by
  unfold execM
  rw [if_neg (by omega), if_neg (by omega), if_neg (by omega), if_neg (by omega), if_neg (by omega), if_neg (by omega), if_pos h]
theorem code_mk {m : MachM} {o : OpM} (h1 : fitsM m o = true) (h2 : makesB o.kind = true → m.nl ≠ 300) (h3 : o.kind = 2 → (onM m o.fb o.fa).length ≠ 4) (h4 : o.kind = 6 → (onM m o.fb o.fa).length ≠ 0)
    (h5 : o.kind = 4 ∨ o.kind = 5 → placeM o.fb o.fa m.rack = placeM o.tb o.ta m.rack ∧ (onM m o.fb o.fa).length ≠ 0 ∧ (onM m o.fb o.fa).length + (onM m o.tb o.ta).length ≤ 4) : codeM m o = 0 := by
  unfold codeM
  rw [if_neg (by rw [h1]; simp), if_neg (fun h => h2 h.1 h.2), if_neg (fun h => h3 h.1 h.2)]
  by_cases h6 : o.kind = 6
  · rw [if_pos h6, if_neg (h4 h6)]
  rw [if_neg h6]
  by_cases h45 : o.kind = 4 ∨ o.kind = 5
  · have := h5 h45
    rw [if_pos h45, if_neg (by simpa using this.1), if_neg this.2.1, if_neg (by omega)]
  · rw [if_neg h45]
theorem code7 {m : MachM} {o : OpM} (h : o.kind = 7) : codeM m o = 0 :=
  code_mk (by unfold fitsM; rw [if_pos (by omega)]) (fun h2 => by unfold makesB at h2; have := of_decide_eq_true h2; omega) (by omega) (by omega) (by omega)
theorem setM_setCar (m : MachM) (c : Int) (x : Bool × Int) (b a : Int) (l : List Int) : setM (setCar m c x) b a l = setCar (setM m b a l) c x := by
  unfold setM setCar; split <;> rfl
theorem loopM_setCar (m : MachM) (c : Int) (x : Bool × Int) (o : OpM) : loopM (setCar m c x) o = setCar (loopM m o) c x := by
  unfold loopM setM setCar
  split <;> rfl
theorem shiftM_setCar (m : MachM) (c : Int) (x : Bool × Int) (o : OpM) : shiftM (setCar m c x) o = setCar (shiftM m o) c x := by
  unfold shiftM
  rw [setM_setCar, setM_setCar]
  rfl
theorem carAt_setCar {m : MachM} (h : m.cs.length = 4) {c : Int} (hc : 1 ≤ c ∧ c ≤ 4) (x : Bool × Int) : carAt (setCar m c x) c = x := by
  unfold carAt setCar
  rw [List.getD_eq_getElem?_getD, List.getElem?_set_self (by omega)]
  rfl
theorem setCar_setCar (m : MachM) (c : Int) (x y : Bool × Int) : setCar (setCar m c x) c y = setCar m c y := by
  unfold setCar
  simp
theorem ridM_setCar {m : MachM} (h : m.cs.length = 4) {o : OpM} (hc : 1 ≤ o.car ∧ o.car ≤ 4) (x : Bool × Int) (hx : x.1 = (carAt m o.car).1) : ridM (setCar m o.car x) o = ridM m o := by
  unfold ridM
  rw [carAt_setCar h hc, setCar_setCar, hx]
  rfl
theorem set_same {l : List (List Int)} {i : Nat} (hi : i < l.length) : l.set i (l.getD i []) = l := by
  rw [List.getD_eq_getElem?_getD, List.getElem?_eq_getElem hi, Option.getD_some, List.set_getElem_self]
/-- there and back again -/
theorem shift_back {m : MachM} (h : MInv m) {o n : OpM} (hb : (o.fb = 1 ∧ o.tb = 2) ∨ (o.fb = 2 ∧ o.tb = 1)) (hf : 0 ≤ o.fa ∧ o.fa < m.wd) (ht : 0 ≤ o.ta ∧ o.ta < m.wd) (he : onM m o.tb o.ta = [])
    (n1 : n.fb = o.tb) (n2 : n.fa = o.ta) (n3 : n.tb = o.fb) (n4 : n.ta = o.fa) : shiftM (shiftM m o) n = m := by
  have hbl := h.bl
  have hfl := h.fl
  obtain ⟨wd, rack, fr, bk, cs, nl⟩ := m
  dsimp only at *
  have hfi : o.fa.toNat < fr.length := by omega
  have hti : o.ta.toNat < bk.length := by omega
  have hfi' : o.fa.toNat < bk.length := by omega
  have hti' : o.ta.toNat < fr.length := by omega
  rcases hb with ⟨b1, b2⟩ | ⟨b1, b2⟩
  · have he' : bk.getD o.ta.toNat [] = [] := by rw [b2] at he; exact he
    have e1 : bothM ⟨wd, rack, fr, bk, cs, nl⟩ o = fr.getD o.fa.toNat [] := by
      unfold bothM onM bedOf; rw [if_pos b2, if_neg (by omega), if_pos b2]; dsimp only; rw [he', List.append_nil]
    have e2 : shiftM ⟨wd, rack, fr, bk, cs, nl⟩ o = ⟨wd, rack, fr.set o.fa.toNat [], bk.set o.ta.toNat (fr.getD o.fa.toNat []), cs, nl⟩ := by
      unfold shiftM; rw [e1]; unfold setM; rw [if_pos b2, if_neg (by omega)]
    rw [e2]
    have e3 : bothM ⟨wd, rack, fr.set o.fa.toNat [], bk.set o.ta.toNat (fr.getD o.fa.toNat []), cs, nl⟩ n = fr.getD o.fa.toNat [] := by
      unfold bothM onM bedOf
      rw [n1, n2, n3, n4, if_neg (by omega), if_neg (by omega), if_pos b2]
      dsimp only
      have : (fr.set o.fa.toNat []).getD o.fa.toNat [] = [] := by rw [List.getD_eq_getElem?_getD, List.getElem?_set_self hfi]; rfl
      rw [this, List.getD_eq_getElem?_getD (l := bk.set _ _), List.getElem?_set_self hti]
      rfl
    unfold shiftM
    rw [e3]
    unfold setM
    rw [n1, n2, n3, n4, if_pos b2, if_neg (show ¬ o.fb = 2 by omega)]
    dsimp only
    rw [List.set_set, List.set_set, set_same hfi]
    congr 1
    conv => lhs; rw [← he']
    exact set_same hti
  · have he' : fr.getD o.ta.toNat [] = [] := by rw [b2] at he; exact he
    have e1 : bothM ⟨wd, rack, fr, bk, cs, nl⟩ o = bk.getD o.fa.toNat [] := by
      unfold bothM onM bedOf; rw [if_neg (by omega), if_neg (by omega), if_pos b1]; dsimp only; rw [he', List.nil_append]
    have e2 : shiftM ⟨wd, rack, fr, bk, cs, nl⟩ o = ⟨wd, rack, fr.set o.ta.toNat (bk.getD o.fa.toNat []), bk.set o.fa.toNat [], cs, nl⟩ := by
      unfold shiftM; rw [e1]; unfold setM; rw [if_pos b1, if_neg (show ¬ o.tb = 2 by omega)]
    rw [e2]
    have e3 : bothM ⟨wd, rack, fr.set o.ta.toNat (bk.getD o.fa.toNat []), bk.set o.fa.toNat [], cs, nl⟩ n = bk.getD o.fa.toNat [] := by
      unfold bothM onM bedOf
      rw [n1, n2, n3, n4, if_pos b1, if_neg (by omega), if_pos b1]
      dsimp only
      have : (bk.set o.fa.toNat []).getD o.fa.toNat [] = [] := by rw [List.getD_eq_getElem?_getD, List.getElem?_set_self hfi']; rfl
      rw [this, List.getD_eq_getElem?_getD (l := fr.set _ _), List.getElem?_set_self hti']
      simp
    unfold shiftM
    rw [e3]
    unfold setM
    rw [n1, n2, n3, n4, if_neg (show ¬ o.tb = 2 by omega), if_pos b1]
    dsimp only
    rw [List.set_set, List.set_set, set_same hfi']
    congr 1
    conv => lhs; rw [← he']
    exact set_same hti'
theorem yarn_kinds {k : Int} (h : yarnB k = true) : k = 1 ∨ k = 2 ∨ k = 3 ∨ k = 5 := of_decide_eq_true h
theorem valid_yarn {o : OpM} (h : validB o = true) (hk : o.kind = 1 ∨ o.kind = 2 ∨ o.kind = 3 ∨ o.kind = 5) : (o.dir = 1 ∨ o.dir = -1) ∧ (0 ≤ o.fa ∧ o.fa ≤ 23) ∧ (1 ≤ o.car ∧ o.car ≤ 4) := by
  have := valid_cases h
  omega
/-- an operation with yarn behind a miss, without it -/
theorem miss_step {m : MachM} (h : MInv m) {o n : OpM} (ho : okOp m.wd o) (hn : okOp m.wd n) (hk : o.kind = 3) (hc : codeM m o = 0) (hc2 : codeM (execM m o) n = 0) (hy : yarnB n.kind = true) (hcar : n.car = o.car) (hdir : n.dir = o.dir)
    (hf : 0 < (placeM n.fb n.fa m.rack - placeM o.fb o.fa m.rack) * o.dir) : codeM m n = 0 ∧ execM m n = execM (execM m o) n := by
  have hx : execM m o = setCar m o.car ((carAt m o.car).1, behindM m o) := by
    unfold execM; rw [if_neg (by omega), if_neg (by omega), if_pos hk]; rfl
  rw [hx] at hc2 ⊢
  have hyk := yarn_kinds hy
  obtain ⟨hd, _, hcb⟩ := valid_yarn ho.1 (by omega)
  obtain ⟨c1, _, _, _, _⟩ := code_zero hc
  obtain ⟨d1, d2, d3, d4, d5⟩ := code_zero hc2
  obtain ⟨hin, hpos⟩ := fits_in c1 (by omega)
  constructor
  · refine code_mk ?_ d2 d3 d4 d5
    unfold fitsM
    rw [if_neg (by omega), if_neg (by omega), if_neg (by omega), hcar, hdir, hin, Bool.true_and, decide_eq_true_eq]
    rcases hd with hd | hd
    · rw [hd] at hf hpos ⊢; omega
    · rw [hd] at hf hpos ⊢; omega
  · have e0 : ∀ x : MachM, x.cs = m.cs → ridM (setCar x o.car ((carAt m o.car).1, behindM m o)) n = ridM x n := fun x hxc => by
      rw [← hcar]
      refine ridM_setCar (by rw [hxc]; exact h.cl) (by omega) _ ?_
      unfold carAt
      rw [hxc]
    have s1 : ∀ x : MachM, (loopM x n).cs = x.cs := fun x => by unfold loopM; exact (setM_same _ _ _).2.2.1
    have s2 : ∀ x : MachM, (shiftM x n).cs = x.cs := fun x => by unfold shiftM; rw [(setM_same _ _ _).2.2.1, (setM_same _ _ _).2.2.1]
    unfold execM
    rcases hyk with hk1 | hk1 | hk1 | hk1
    · rw [if_pos hk1, if_pos hk1, setM_setCar, loopM_setCar, e0 _ (by rw [s1, (setM_same _ _ _).2.2.1])]
    · rw [if_neg (by omega), if_pos hk1, if_neg (by omega), if_pos hk1, loopM_setCar, e0 _ (s1 _)]
    · rw [if_neg (by omega), if_neg (by omega), if_pos hk1, if_neg (by omega), if_neg (by omega), if_pos hk1, e0 _ rfl]
    · rw [if_neg (by omega), if_neg (by omega), if_neg (by omega), if_neg (by omega), if_pos hk1, if_neg (by omega), if_neg (by omega), if_neg (by omega), if_neg (by omega), if_pos hk1, shiftM_setCar, loopM_setCar, e0 _ (by rw [s1, s2])]
theorem cut_head {m : MachM} (h : MInv m) {o : OpM} {os : List OpM} (hok : ∀ x ∈ o :: os, okOp m.wd x) (hr : runM m (o :: os) = 0) (hne : ruleM m o (os.headD opZ) ≠ 0) : runM m ((o :: os).drop (cutN (ruleM m o (os.headD opZ)))) = 0 := by
  have ho := hok o (by simp)
  generalize hR : ruleM m o (os.headD opZ) = r at *
  unfold ruleM at hR
  by_cases h7 : o.kind = 7
  · rw [if_pos h7] at hR
    by_cases hq : o.rack = m.rack
    · rw [if_pos hq] at hR
      subst hR
      have := (run_one hr).2
      rw [exec7 h7, hq] at this
      exact this
    rw [if_neg hq] at hR
    by_cases hn : (os.headD opZ).kind = 7
    · rw [if_pos hn] at hR
      subst hR
      cases os with
      | nil => simp [opZ] at hn
      | cons n os' =>
        have hn' : n.kind = 7 := hn
        have := (run_two hr).2.2
        rw [exec7 h7, exec7 hn'] at this
        refine run_cons (code7 hn') ?_
        rw [exec7 hn']
        exact this
    · rw [if_neg hn] at hR; exact absurd hR.symm hne
  rw [if_neg h7] at hR
  by_cases h3 : o.kind = 3
  · rw [if_pos h3] at hR
    by_cases hq : yarnB (os.headD opZ).kind = true ∧ (os.headD opZ).car = o.car ∧ (os.headD opZ).dir = o.dir ∧ 0 < (placeM (os.headD opZ).fb (os.headD opZ).fa m.rack - placeM o.fb o.fa m.rack) * o.dir
    · rw [if_pos hq] at hR
      subst hR
      cases os with
      | nil => have := hq.1; simp [opZ, yarnB] at this
      | cons n os' =>
        obtain ⟨q1, q2, q3, q4⟩ := hq
        obtain ⟨r1, r2, r3⟩ := run_two hr
        obtain ⟨m1, m2⟩ := miss_step h ho (hok n (by simp)) h3 r1 r2 q1 q2 q3 q4
        refine run_cons m1 ?_
        rw [m2]
        exact r3
    · rw [if_neg hq] at hR; exact absurd hR.symm hne
  rw [if_neg h3] at hR
  by_cases h4 : o.kind = 4
  · rw [if_pos h4] at hR
    by_cases hq : (onM m o.tb o.ta).length = 0 ∧ (os.headD opZ).kind = 4 ∧ (os.headD opZ).fb = o.tb ∧ (os.headD opZ).fa = o.ta ∧ (os.headD opZ).tb = o.fb ∧ (os.headD opZ).ta = o.fa
    · rw [if_pos hq] at hR
      subst hR
      cases os with
      | nil => have := hq.2.1; simp [opZ] at this
      | cons n os' =>
        obtain ⟨q1, q2, q3, q4, q5, q6⟩ := hq
        obtain ⟨r1, r2, r3⟩ := run_two hr
        have hv := valid_cases ho.1
        have e1 : execM m o = shiftM m o := by unfold execM; rw [if_neg (by omega), if_neg (by omega), if_neg (by omega), if_pos h4]
        have q2' : n.kind = 4 := q2
        have e2 : execM (shiftM m o) n = shiftM (shiftM m o) n := by
          unfold execM; rw [if_neg (by omega), if_neg (by omega), if_neg (by omega), if_pos q2']
        rw [e1, e2, shift_back (n := n) h (by omega) ⟨by omega, ho.2.1⟩ ⟨by omega, ho.2.2⟩ (List.eq_nil_of_length_eq_zero q1) q3 q4 q5 q6] at r3
        exact r3
    · rw [if_neg hq] at hR; exact absurd hR.symm hne
  rw [if_neg h4] at hR
  by_cases h8 : o.kind = 8
  · rw [if_pos h8] at hR
    by_cases hq : (os.headD opZ).kind = 9 ∧ (os.headD opZ).car = o.car
    · rw [if_pos hq] at hR
      subst hR
      cases os with
      | nil => have := hq.1; simp [opZ] at this
      | cons n os' =>
        obtain ⟨q1, q2⟩ := hq
        have q1' : n.kind = 9 := q1
        have q2' : n.car = o.car := q2
        obtain ⟨r1, r2, r3⟩ := run_two hr
        have hv := valid_cases ho.1
        have hcb : 1 ≤ o.car ∧ o.car ≤ 4 := by omega
        have hfit := (code_zero r1).1
        have hno : (carAt m o.car).1 = false := by
          unfold fitsM at hfit
          rw [if_neg (by omega), if_pos h8] at hfit
          simpa using hfit
        have hz := (carAt_fits h hcb).2.2 hno
        have e1 : ∀ x : Bool × Int, setCar (setCar m o.car x) o.car (false, 0) = m := fun x => by
          rw [setCar_setCar]
          unfold carAt at hno hz
          have hlt : (o.car - 1).toNat < m.cs.length := by rw [h.cl]; omega
          rw [List.getD_eq_getElem?_getD, List.getElem?_eq_getElem hlt, Option.getD_some] at hno hz
          have : m.cs.set (o.car - 1).toNat (false, 0) = m.cs := by
            have e : ((false, 0) : Bool × Int) = m.cs[(o.car - 1).toNat] := by rw [← hno, ← hz]
            rw [e, List.set_getElem_self]
          unfold setCar
          rw [this]
        have e2 : execM m o = setCar m o.car (true, if o.dir = -1 then m.wd + 3 else -3) := by
          unfold execM
          rw [if_neg (by omega), if_neg (by omega), if_neg (by omega), if_neg (by omega), if_neg (by omega), if_neg (by omega), if_neg (by omega), if_pos h8]
        have e3 : ∀ x : MachM, execM x n = setCar x o.car (false, 0) := fun x => by
          unfold execM
          rw [if_neg (by omega), if_neg (by omega), if_neg (by omega), if_neg (by omega), if_neg (by omega), if_neg (by omega), if_neg (by omega), if_neg (by omega), q2']
        rw [e3, e2, e1] at r3
        exact r3
    · rw [if_neg hq] at hR; exact absurd hR.symm hne
  · rw [if_neg h8] at hR; exact absurd hR.symm hne
theorem cut_run : ∀ (ops : List OpM) (m : MachM) (i : Nat) (hi : i < ops.length), MInv m → (∀ x ∈ ops, okOp m.wd x) → runM m ops = 0 → (rulesM m ops).getD i 0 ≠ 0 → runM m (cutM ops ((rulesM m ops).getD i 0) i) = 0
  | [], _, _, hi, _, _, _, _ => by simp at hi
  | o :: os, m, 0, _, h, hok, hr, hne => by
    have : (rulesM m (o :: os)).getD 0 0 = ruleM m o (os.headD opZ) := rfl
    rw [this] at hne ⊢
    have := cut_head h hok hr hne
    unfold cutM
    simpa using this
  | o :: os, m, i + 1, hi, h, hok, hr, hne => by
    have e : (rulesM m (o :: os)).getD (i + 1) 0 = (rulesM (execM m o) os).getD i 0 := rfl
    rw [e] at hne ⊢
    obtain ⟨r1, r2⟩ := run_one hr
    have ih := cut_run os (execM m o) i (by simpa using hi) (h.exec (hok o (by simp)) r1) (fun x hx => by rw [execM_wd]; exact hok x (by simp [hx])) r2 hne
    have : cutM (o :: os) ((rulesM (execM m o) os).getD i 0) (i + 1) = o :: cutM os ((rulesM (execM m o) os).getD i 0) i := by
      unfold cutM
      rw [List.take_succ_cons, show i + 1 + cutN ((rulesM (execM m o) os).getD i 0) = (i + cutN ((rulesM (execM m o) os).getD i 0)) + 1 by omega, List.drop_succ_cons]
      rfl
    rw [this]
    exact run_cons r1 ih
theorem cutM_mem {ops : List OpM} {r : Int} {i : Nat} {x : OpM} (h : x ∈ cutM ops r i) : x ∈ ops := by
  rcases List.mem_append.1 h with h | h
  · exact List.mem_of_mem_take h
  · exact List.mem_of_mem_drop h
theorem cutM_lt {ops : List OpM} {r : Int} {i : Nat} (h : i < ops.length) : (cutM ops r i).length < ops.length := by
  unfold cutM cutN
  rw [List.length_append, List.length_take, List.length_drop]
  split <;> omega
/-- the first saving -/
def firstI : List Int → Nat → Int × Nat
  | [], _ => (0, 0)
  | r :: rs, k => if r = 0 then firstI rs (k + 1) else (r, k)
def firstM (w : Int) (ops : List OpM) : Int × Nat := firstI (rulesM (newM w) ops) 0
theorem firstI_spec : ∀ (rs : List Int) (k : Nat), ((firstI rs k).1 = 0 → ∀ r ∈ rs, r = 0) ∧ ((firstI rs k).1 ≠ 0 → k ≤ (firstI rs k).2 ∧ (firstI rs k).2 < k + rs.length ∧ rs.getD ((firstI rs k).2 - k) 0 = (firstI rs k).1)
  | [], k => by simp [firstI]
  | r :: rs, k => by
    unfold firstI
    by_cases h : r = 0
    · rw [if_pos h]
      obtain ⟨h1, h2⟩ := firstI_spec rs (k + 1)
      refine ⟨fun hz x hx => ?_, fun hne => ?_⟩
      · rcases List.mem_cons.1 hx with hx | hx
        · rw [hx]; exact h
        · exact h1 hz x hx
      · obtain ⟨a, b, c⟩ := h2 hne
        refine ⟨by omega, by simp only [List.length_cons]; omega, ?_⟩
        rw [show (firstI rs (k + 1)).2 - k = ((firstI rs (k + 1)).2 - (k + 1)) + 1 by omega]
        exact c
    · rw [if_neg h]
      exact ⟨fun hz => absurd hz h, fun _ => ⟨Nat.le_refl _, by simp, by simp⟩⟩
theorem firstM_lt {w : Int} {ops : List OpM} (h : (firstM w ops).1 ≠ 0) : (firstM w ops).2 < ops.length ∧ (rulesM (newM w) ops).getD (firstM w ops).2 0 = (firstM w ops).1 := by
  have := (firstI_spec (rulesM (newM w) ops) 0).2 h
  rw [rulesM_length] at this
  unfold firstM at *
  exact ⟨by omega, by simpa using this.2.2⟩
theorem firstM_cut {w : Int} (hw : 1 ≤ w ∧ w ≤ 24) {ops : List OpM} (hok : ∀ x ∈ ops, okOp w x) (hr : runM (newM w) ops = 0) (h : (firstM w ops).1 ≠ 0) :
    runM (newM w) (cutM ops (firstM w ops).1 (firstM w ops).2) = 0 := by
  obtain ⟨h1, h2⟩ := firstM_lt h
  have := cut_run ops (newM w) (firstM w ops).2 h1 (newM_inv hw) hok hr (by rw [h2]; exact h)
  rwa [h2] at this
/-- savings, one after the other -/
def optM (w : Int) : Nat → List OpM → List OpM × List (Int × Nat)
  | 0, ops => (ops, [])
  | n + 1, ops => if (firstM w ops).1 = 0 then (ops, []) else
    let x := optM w n (cutM ops (firstM w ops).1 (firstM w ops).2)
    (x.1, firstM w ops :: x.2)
end Go.Proofs.YtiiodfcbpmkodaaGreat
