/- The knitting machine as plain data: what an operation does, the rules of the optimizer; removing a saving keeps a program executable. No condition. -/
import Derived.Test.YtiiodfcbpmkodaaValid
set_option linter.unusedSimpArgs false
set_option linter.unusedVariables false
namespace Go.Proofs.Ytiiodfcbpmkodaa
structure MachM where
  wd : Int
  rack : Int
  fr : List (List Int)
  bk : List (List Int)
  cs : List (Bool × Int)
  nl : Nat
def bedOf (m : MachM) (b : Int) : List (List Int) := if b = 2 then m.bk else m.fr
def onM (m : MachM) (b a : Int) : List Int := (bedOf m b).getD a.toNat []
def setM (m : MachM) (b a : Int) (l : List Int) : MachM := if b = 2 then { m with bk := m.bk.set a.toNat l } else { m with fr := m.fr.set a.toNat l }
def placeM (b a r : Int) : Int := if b = 2 then a + r else a
def carAt (m : MachM) (c : Int) : Bool × Int := m.cs.getD (c - 1).toNat (false, 0)
def setCar (m : MachM) (c : Int) (x : Bool × Int) : MachM := { m with cs := m.cs.set (c - 1).toNat x }
def fitsM (m : MachM) (o : OpM) : Bool :=
  if o.kind = 4 ∨ o.kind = 6 ∨ o.kind = 7 then true
  else if o.kind = 8 then !(carAt m o.car).1
  else if o.kind = 9 then (carAt m o.car).1
  else (carAt m o.car).1 && decide ((o.dir = 1 ∧ (carAt m o.car).2 ≤ placeM o.fb o.fa m.rack) ∨ (o.dir = -1 ∧ placeM o.fb o.fa m.rack + 1 ≤ (carAt m o.car).2))
def makesB (k : Int) : Bool := decide (k = 1 ∨ k = 2 ∨ k = 5)
def codeM (m : MachM) (o : OpM) : Int :=
  if fitsM m o = false then 9
  else if makesB o.kind = true ∧ m.nl = 300 then 5
  else if o.kind = 2 ∧ (onM m o.fb o.fa).length = 4 then 5
  else if o.kind = 6 then (if (onM m o.fb o.fa).length = 0 then 7 else 0)
  else if o.kind = 4 ∨ o.kind = 5 then
    (if placeM o.fb o.fa m.rack ≠ placeM o.tb o.ta m.rack then 8
     else if (onM m o.fb o.fa).length = 0 then 7
     else if 4 < (onM m o.fb o.fa).length + (onM m o.tb o.ta).length then 5 else 0)
  else 0
def behindM (m : MachM) (o : OpM) : Int := placeM o.fb o.fa m.rack + (if o.dir = 1 then 1 else 0)
def ridM (m : MachM) (o : OpM) : MachM := setCar m o.car ((carAt m o.car).1, behindM m o)
def loopM (m : MachM) (o : OpM) : MachM := { setM m o.fb o.fa (onM m o.fb o.fa ++ [(m.nl : Int)]) with nl := m.nl + 1 }
def bothM (m : MachM) (o : OpM) : List Int := if o.tb = 2 then onM m o.fb o.fa ++ onM m o.tb o.ta else onM m o.tb o.ta ++ onM m o.fb o.fa
def shiftM (m : MachM) (o : OpM) : MachM := setM (setM m o.tb o.ta (bothM m o)) o.fb o.fa []
def execM (m : MachM) (o : OpM) : MachM :=
  if o.kind = 1 then ridM (loopM (setM m o.fb o.fa []) o) o
  else if o.kind = 2 then ridM (loopM m o) o
  else if o.kind = 3 then ridM m o
  else if o.kind = 4 then shiftM m o
  else if o.kind = 5 then ridM (loopM (shiftM m o) o) o
  else if o.kind = 6 then setM m o.fb o.fa []
  else if o.kind = 7 then { m with rack := o.rack }
  else if o.kind = 8 then setCar m o.car (true, if o.dir = -1 then m.wd + 3 else -3)
  else setCar m o.car (false, 0)
/-- what holds of every machine that is reached -/
structure MInv (m : MachM) : Prop where
  wd : 1 ≤ m.wd ∧ m.wd ≤ 24
  rack : -3 ≤ m.rack ∧ m.rack ≤ 3
  fl : (m.fr.length : Int) = m.wd
  bl : (m.bk.length : Int) = m.wd
  cl : m.cs.length = 4
  fs : ∀ l ∈ m.fr, l.length ≤ 4 ∧ ∀ x ∈ l, 0 ≤ x ∧ x ≤ 300
  bs : ∀ l ∈ m.bk, l.length ≤ 4 ∧ ∀ x ∈ l, 0 ≤ x ∧ x ≤ 300
  ca : ∀ c ∈ m.cs, -100 ≤ c.2 ∧ c.2 ≤ 100 ∧ (c.1 = false → c.2 = 0)
  nl : m.nl ≤ 300
/-- an operation that is valid for a width -/
def okOp (w : Int) (o : OpM) : Prop := validB o = true ∧ o.fa < w ∧ o.ta < w
theorem needle_of {b a : Int} (h : needleB b a = true) : (b = 1 ∨ b = 2) ∧ 0 ≤ a ∧ a ≤ 23 := by
  unfold needleB bedB placeB at h
  simp only [Bool.and_eq_true, decide_eq_true_eq] at h
  exact h
theorem car_of {c : Int} (h : carB c = true) : 1 ≤ c ∧ c ≤ 4 := by unfold carB at h; exact of_decide_eq_true h
theorem dir_of {d : Int} (h : dirB d = true) : d = 1 ∨ d = -1 := by unfold dirB at h; exact of_decide_eq_true h
theorem rack_of {r : Int} (h : rackB r = true) : -3 ≤ r ∧ r ≤ 3 := by unfold rackB at h; exact of_decide_eq_true h
/-- what a valid operation is, by its kind -/
theorem valid_cases {o : OpM} (h : validB o = true) :
    ((o.kind = 1 ∨ o.kind = 2 ∨ o.kind = 3) ∧ (o.dir = 1 ∨ o.dir = -1) ∧ ((o.fb = 1 ∨ o.fb = 2) ∧ 0 ≤ o.fa ∧ o.fa ≤ 23) ∧ (1 ≤ o.car ∧ o.car ≤ 4) ∧ o.tb = 0 ∧ o.ta = 0 ∧ o.rack = 0) ∨
    (o.kind = 4 ∧ ((o.fb = 1 ∨ o.fb = 2) ∧ 0 ≤ o.fa ∧ o.fa ≤ 23) ∧ ((o.tb = 1 ∨ o.tb = 2) ∧ 0 ≤ o.ta ∧ o.ta ≤ 23) ∧ o.fb ≠ o.tb ∧ o.dir = 0 ∧ o.car = 0 ∧ o.rack = 0) ∨
    (o.kind = 5 ∧ ((o.fb = 1 ∨ o.fb = 2) ∧ 0 ≤ o.fa ∧ o.fa ≤ 23) ∧ ((o.tb = 1 ∨ o.tb = 2) ∧ 0 ≤ o.ta ∧ o.ta ≤ 23) ∧ o.fb ≠ o.tb ∧ (o.dir = 1 ∨ o.dir = -1) ∧ (1 ≤ o.car ∧ o.car ≤ 4) ∧ o.rack = 0) ∨
    (o.kind = 6 ∧ ((o.fb = 1 ∨ o.fb = 2) ∧ 0 ≤ o.fa ∧ o.fa ≤ 23) ∧ o.dir = 0 ∧ o.tb = 0 ∧ o.ta = 0 ∧ o.car = 0 ∧ o.rack = 0) ∨
    (o.kind = 7 ∧ (-3 ≤ o.rack ∧ o.rack ≤ 3) ∧ o.dir = 0 ∧ o.fb = 0 ∧ o.fa = 0 ∧ o.tb = 0 ∧ o.ta = 0 ∧ o.car = 0) ∨
    (o.kind = 8 ∧ (o.dir = 1 ∨ o.dir = -1) ∧ (1 ≤ o.car ∧ o.car ≤ 4) ∧ o.fb = 0 ∧ o.fa = 0 ∧ o.tb = 0 ∧ o.ta = 0 ∧ o.rack = 0) ∨
    (o.kind = 9 ∧ (1 ≤ o.car ∧ o.car ≤ 4) ∧ o.dir = 0 ∧ o.fb = 0 ∧ o.fa = 0 ∧ o.tb = 0 ∧ o.ta = 0 ∧ o.rack = 0) := by
  unfold validB at h
  by_cases h1 : o.kind = 1 ∨ o.kind = 2 ∨ o.kind = 3
  · rw [if_pos h1] at h
    simp only [Bool.and_eq_true, beq_iff_eq] at h
    exact .inl ⟨h1, dir_of h.1.1.1.1.1, needle_of h.1.1.1.1.2, car_of h.1.1.1.2, h.1.1.2, h.1.2, h.2⟩
  rw [if_neg h1] at h
  by_cases h4 : o.kind = 4
  · rw [if_pos h4] at h
    simp only [Bool.and_eq_true, beq_iff_eq, bne_iff_ne] at h
    exact .inr (.inl ⟨h4, needle_of h.1.1.1.1.1, needle_of h.1.1.1.1.2, h.1.1.1.2, h.1.1.2, h.1.2, h.2⟩)
  rw [if_neg h4] at h
  by_cases h5 : o.kind = 5
  · rw [if_pos h5] at h
    simp only [Bool.and_eq_true, beq_iff_eq, bne_iff_ne] at h
    exact .inr (.inr (.inl ⟨h5, needle_of h.1.1.1.1.1, needle_of h.1.1.1.1.2, h.1.1.1.2, dir_of h.1.1.2, car_of h.1.2, h.2⟩))
  rw [if_neg h5] at h
  by_cases h6 : o.kind = 6
  · rw [if_pos h6] at h
    simp only [Bool.and_eq_true, beq_iff_eq] at h
    exact .inr (.inr (.inr (.inl ⟨h6, needle_of h.1.1.1.1.1, h.1.1.1.1.2, h.1.1.1.2, h.1.1.2, h.1.2, h.2⟩)))
  rw [if_neg h6] at h
  by_cases h7 : o.kind = 7
  · rw [if_pos h7] at h
    simp only [Bool.and_eq_true, beq_iff_eq] at h
    exact .inr (.inr (.inr (.inr (.inl ⟨h7, rack_of h.1.1.1.1.1.1, h.1.1.1.1.1.2, h.1.1.1.1.2, h.1.1.1.2, h.1.1.2, h.1.2, h.2⟩))))
  rw [if_neg h7] at h
  by_cases h8 : o.kind = 8
  · rw [if_pos h8] at h
    simp only [Bool.and_eq_true, beq_iff_eq] at h
    exact .inr (.inr (.inr (.inr (.inr (.inl ⟨h8, dir_of h.1.1.1.1.1.1, car_of h.1.1.1.1.1.2, h.1.1.1.1.2, h.1.1.1.2, h.1.1.2, h.1.2, h.2⟩)))))
  rw [if_neg h8] at h
  by_cases h9 : o.kind = 9
  · rw [if_pos h9] at h
    simp only [Bool.and_eq_true, beq_iff_eq] at h
    exact .inr (.inr (.inr (.inr (.inr (.inr ⟨h9, car_of h.1.1.1.1.1.1, h.1.1.1.1.1.2, h.1.1.1.1.2, h.1.1.1.2, h.1.1.2, h.1.2, h.2⟩)))))
  rw [if_neg h9] at h
  cases h
/-- a needle of a machine -/
def okN (m : MachM) (b a : Int) : Prop := (b = 1 ∨ b = 2) ∧ 0 ≤ a ∧ a < m.wd
theorem MInv.bed {m : MachM} (h : MInv m) (b : Int) : ((bedOf m b).length : Int) = m.wd ∧ ∀ l ∈ bedOf m b, l.length ≤ 4 ∧ ∀ x ∈ l, 0 ≤ x ∧ x ≤ 300 := by
  unfold bedOf
  split
  · exact ⟨h.bl, h.bs⟩
  · exact ⟨h.fl, h.fs⟩
theorem MInv.on_ {m : MachM} (h : MInv m) (b a : Int) : (onM m b a).length ≤ 4 ∧ ∀ x ∈ onM m b a, 0 ≤ x ∧ x ≤ 300 := by
  unfold onM
  rw [List.getD_eq_getElem?_getD]
  rcases hh : (bedOf m b)[a.toNat]? with _ | l
  · simp
  · exact (h.bed b).2 l (List.mem_of_getElem? hh)
theorem MInv.setM_ {m : MachM} (h : MInv m) (b a : Int) {l : List Int} (hl : l.length ≤ 4 ∧ ∀ x ∈ l, 0 ≤ x ∧ x ≤ 300) : MInv (setM m b a l) := by
  unfold setM
  split
  · exact ⟨h.wd, h.rack, h.fl, by simpa using h.bl, h.cl, h.fs, fun k hk => (List.mem_or_eq_of_mem_set hk).elim (h.bs k) (fun e => e ▸ hl), h.ca, h.nl⟩
  · exact ⟨h.wd, h.rack, by simpa using h.fl, h.bl, h.cl, fun k hk => (List.mem_or_eq_of_mem_set hk).elim (h.fs k) (fun e => e ▸ hl), h.bs, h.ca, h.nl⟩
theorem MInv.setCar_ {m : MachM} (h : MInv m) (c : Int) {x : Bool × Int} (hx : -100 ≤ x.2 ∧ x.2 ≤ 100 ∧ (x.1 = false → x.2 = 0)) : MInv (setCar m c x) :=
  ⟨h.wd, h.rack, h.fl, h.bl, by simpa [setCar] using h.cl, h.fs, h.bs, fun k hk => (List.mem_or_eq_of_mem_set hk).elim (h.ca k) (fun e => e ▸ hx), h.nl⟩
theorem setM_same {m : MachM} (b a : Int) (l : List Int) : (setM m b a l).wd = m.wd ∧ (setM m b a l).rack = m.rack ∧ (setM m b a l).cs = m.cs ∧ (setM m b a l).nl = m.nl := by
  unfold setM; split <;> exact ⟨rfl, rfl, rfl, rfl⟩
theorem bedOf_setM (m : MachM) (b a : Int) (l : List Int) : bedOf (setM m b a l) b = (bedOf m b).set a.toNat l := by
  unfold setM bedOf
  split
  · rfl
  · rfl
theorem onM_setM {m : MachM} (h : MInv m) {b a : Int} (l : List Int) (ha : 0 ≤ a ∧ a < m.wd) : onM (setM m b a l) b a = l := by
  unfold onM
  rw [bedOf_setM, List.getD_eq_getElem?_getD, List.getElem?_set_self (by have := (h.bed b).1; omega)]
  rfl
theorem carAt_fits {m : MachM} (h : MInv m) {c : Int} (hc : 1 ≤ c ∧ c ≤ 4) : -100 ≤ (carAt m c).2 ∧ (carAt m c).2 ≤ 100 ∧ ((carAt m c).1 = false → (carAt m c).2 = 0) := by
  unfold carAt
  have hlt : (c - 1).toNat < m.cs.length := by rw [h.cl]; omega
  rw [List.getD_eq_getElem?_getD, List.getElem?_eq_getElem hlt, Option.getD_some]
  exact h.ca _ (List.getElem_mem hlt)
theorem placeM_bd {b a r : Int} (ha : 0 ≤ a ∧ a ≤ 23) (hr : -3 ≤ r ∧ r ≤ 3) : -3 ≤ placeM b a r ∧ placeM b a r ≤ 26 := by unfold placeM; split <;> omega
theorem behindM_bd {m : MachM} (h : MInv m) {o : OpM} (ha : 0 ≤ o.fa ∧ o.fa ≤ 23) : -3 ≤ behindM m o ∧ behindM m o ≤ 27 := by
  have := placeM_bd (b := o.fb) ha h.rack
  unfold behindM
  split <;> omega
theorem MInv.rid {m : MachM} (h : MInv m) {o : OpM} (ha : 0 ≤ o.fa ∧ o.fa ≤ 23) (hin : (carAt m o.car).1 = true) : MInv (ridM m o) := by
  have := behindM_bd h ha
  exact h.setCar_ _ ⟨by omega, by omega, fun hh => by rw [hin] at hh; cases hh⟩
theorem MInv.loop {m : MachM} (h : MInv m) {o : OpM} (h1 : (onM m o.fb o.fa).length ≤ 3) (h2 : m.nl < 300) : MInv (loopM m o) := by
  have h3 := (h.on_ o.fb o.fa).2
  have h4 := h.setM_ o.fb o.fa (l := onM m o.fb o.fa ++ [(m.nl : Int)]) ⟨by simp; omega, fun x hx => by
    rcases List.mem_append.1 hx with hx | hx
    · exact h3 x hx
    · simp at hx; omega⟩
  exact ⟨h4.wd, h4.rack, h4.fl, h4.bl, h4.cl, h4.fs, h4.bs, h4.ca, by show m.nl + 1 ≤ 300; omega⟩
theorem bothM_ok {m : MachM} (h : MInv m) {o : OpM} (hl : (onM m o.fb o.fa).length + (onM m o.tb o.ta).length ≤ 4) : (bothM m o).length ≤ 4 ∧ ∀ x ∈ bothM m o, 0 ≤ x ∧ x ≤ 300 := by
  have h1 := (h.on_ o.fb o.fa).2
  have h2 := (h.on_ o.tb o.ta).2
  unfold bothM
  split
  · exact ⟨by simp; omega, fun x hx => (List.mem_append.1 hx).elim (h1 x) (h2 x)⟩
  · exact ⟨by simp; omega, fun x hx => (List.mem_append.1 hx).elim (h2 x) (h1 x)⟩
theorem MInv.shift {m : MachM} (h : MInv m) {o : OpM} (hl : (onM m o.fb o.fa).length + (onM m o.tb o.ta).length ≤ 4) : MInv (shiftM m o) :=
  (h.setM_ _ _ (bothM_ok h hl)).setM_ _ _ ⟨by simp, by simp⟩
/-- what it means that an operation can be carried out -/
theorem code_zero {m : MachM} {o : OpM} (h : codeM m o = 0) :
    fitsM m o = true ∧ (makesB o.kind = true → m.nl ≠ 300) ∧ (o.kind = 2 → (onM m o.fb o.fa).length ≠ 4) ∧ (o.kind = 6 → (onM m o.fb o.fa).length ≠ 0) ∧
    (o.kind = 4 ∨ o.kind = 5 → placeM o.fb o.fa m.rack = placeM o.tb o.ta m.rack ∧ (onM m o.fb o.fa).length ≠ 0 ∧ (onM m o.fb o.fa).length + (onM m o.tb o.ta).length ≤ 4) := by
  unfold codeM at h
  by_cases h1 : fitsM m o = false
  · rw [if_pos h1] at h; omega
  rw [if_neg h1] at h
  by_cases h2 : makesB o.kind = true ∧ m.nl = 300
  · rw [if_pos h2] at h; omega
  rw [if_neg h2] at h
  by_cases h3 : o.kind = 2 ∧ (onM m o.fb o.fa).length = 4
  · rw [if_pos h3] at h; omega
  rw [if_neg h3] at h
  refine ⟨by simpa using h1, fun a b => h2 ⟨a, b⟩, fun a b => h3 ⟨a, b⟩, fun h6 => ?_, fun h45 => ?_⟩
  · rw [if_pos h6] at h
    intro hh
    rw [if_pos hh] at h
    omega
  · rw [if_neg (by omega), if_pos h45] at h
    by_cases h4 : placeM o.fb o.fa m.rack ≠ placeM o.tb o.ta m.rack
    · rw [if_pos h4] at h; omega
    rw [if_neg h4] at h
    by_cases h5 : (onM m o.fb o.fa).length = 0
    · rw [if_pos h5] at h; omega
    rw [if_neg h5] at h
    by_cases h6 : 4 < (onM m o.fb o.fa).length + (onM m o.tb o.ta).length
    · rw [if_pos h6] at h; omega
    exact ⟨by simpa using h4, h5, by omega⟩
theorem fits_in {m : MachM} {o : OpM} (h : fitsM m o = true) (hk : o.kind = 1 ∨ o.kind = 2 ∨ o.kind = 3 ∨ o.kind = 5) : (carAt m o.car).1 = true ∧ ((o.dir = 1 ∧ (carAt m o.car).2 ≤ placeM o.fb o.fa m.rack) ∨ (o.dir = -1 ∧ placeM o.fb o.fa m.rack + 1 ≤ (carAt m o.car).2)) := by
  unfold fitsM at h
  rw [if_neg (by omega), if_neg (by omega), if_neg (by omega), Bool.and_eq_true, decide_eq_true_eq] at h
  exact h
theorem MInv.exec {m : MachM} (h : MInv m) {o : OpM} (ho : okOp m.wd o) (hc : codeM m o = 0) : MInv (execM m o) := by
  obtain ⟨hv, hf, ht⟩ := ho
  obtain ⟨c1, c2, c3, c4, c5⟩ := code_zero hc
  unfold execM
  rcases valid_cases hv with ⟨hk, hd, hn, hcar, _⟩ | ⟨hk, hn, hn2, _⟩ | ⟨hk, hn, hn2, _, hd, hcar, _⟩ | ⟨hk, hn, _⟩ | ⟨hk, hr, _⟩ | ⟨hk, hd, hcar, _⟩ | ⟨hk, hcar, _⟩
  · have hin := (fits_in c1 (by omega)).1
    rcases hk with hk | hk | hk
    · rw [if_pos hk]
      have h0 := h.setM_ o.fb o.fa (l := []) ⟨by simp, by simp⟩
      have he : onM (setM m o.fb o.fa []) o.fb o.fa = [] := onM_setM h [] ⟨hn.2.1, hf⟩
      have hs := setM_same (m := m) o.fb o.fa []
      have h1 := h0.loop (o := o) (by rw [he]; simp) (by rw [hs.2.2.2]; have := c2 (by unfold makesB; simp [hk]); have := h.nl; omega)
      refine h1.rid hn.2 ?_
      show (carAt (setM (setM m o.fb o.fa []) o.fb o.fa _) o.car).1 = true
      unfold carAt at hin ⊢
      rw [(setM_same _ _ _).2.2.1, hs.2.2.1]
      exact hin
    · rw [if_neg (by omega), if_pos hk]
      have h1 := h.loop (o := o) (by have := (h.on_ o.fb o.fa).1; have := c3 hk; omega) (by have := c2 (by unfold makesB; simp [hk]); have := h.nl; omega)
      refine h1.rid hn.2 ?_
      show (carAt (setM m o.fb o.fa _) o.car).1 = true
      unfold carAt at hin ⊢
      rw [(setM_same _ _ _).2.2.1]
      exact hin
    · rw [if_neg (by omega), if_neg (by omega), if_pos hk]
      exact h.rid hn.2 hin
  · rw [if_neg (by omega), if_neg (by omega), if_neg (by omega), if_pos hk]
    exact h.shift (c5 (.inl hk)).2.2
  · rw [if_neg (by omega), if_neg (by omega), if_neg (by omega), if_neg (by omega), if_pos hk]
    have hin := (fits_in c1 (by omega)).1
    have h0 := h.shift (c5 (.inr hk)).2.2
    have he : onM (shiftM m o) o.fb o.fa = [] := onM_setM (h.setM_ _ _ (bothM_ok h (c5 (.inr hk)).2.2)) [] ⟨hn.2.1, by rw [(setM_same _ _ _).1]; exact hf⟩
    have hnl : (shiftM m o).nl = m.nl := by unfold shiftM; rw [(setM_same _ _ _).2.2.2, (setM_same _ _ _).2.2.2]
    have h1 := h0.loop (o := o) (by rw [he]; simp) (by rw [hnl]; have := c2 (by unfold makesB; simp [hk]); have := h.nl; omega)
    refine h1.rid hn.2 ?_
    show (carAt (setM (shiftM m o) o.fb o.fa _) o.car).1 = true
    unfold carAt at hin ⊢
    rw [(setM_same _ _ _).2.2.1]
    unfold shiftM
    rw [(setM_same _ _ _).2.2.1, (setM_same _ _ _).2.2.1]
    exact hin
  · rw [if_neg (by omega), if_neg (by omega), if_neg (by omega), if_neg (by omega), if_neg (by omega), if_pos hk]
    exact h.setM_ _ _ ⟨by simp, by simp⟩
  · rw [if_neg (by omega), if_neg (by omega), if_neg (by omega), if_neg (by omega), if_neg (by omega), if_neg (by omega), if_pos hk]
    exact ⟨h.wd, hr, h.fl, h.bl, h.cl, h.fs, h.bs, h.ca, h.nl⟩
  · rw [if_neg (by omega), if_neg (by omega), if_neg (by omega), if_neg (by omega), if_neg (by omega), if_neg (by omega), if_neg (by omega), if_pos hk]
    refine h.setCar_ _ ?_
    have := h.wd
    dsimp only
    split <;> refine ⟨by omega, by omega, fun hh => by cases hh⟩
  · rw [if_neg (by omega), if_neg (by omega), if_neg (by omega), if_neg (by omega), if_neg (by omega), if_neg (by omega), if_neg (by omega), if_neg (by omega)]
    exact h.setCar_ _ ⟨by simp, by simp, by simp⟩
theorem execM_wd (m : MachM) (o : OpM) : (execM m o).wd = m.wd := by
  unfold execM ridM loopM shiftM setCar
  repeat' split
  all_goals (first | rfl | (simp only [(setM_same _ _ _).1]))
def runM : MachM → List OpM → Int
  | _, [] => 0
  | m, o :: os => if codeM m o = 0 then runM (execM m o) os else codeM m o
def newM (w : Int) : MachM := ⟨w, 0, List.replicate w.toNat [], List.replicate w.toNat [], List.replicate 4 (false, 0), 0⟩
theorem newM_inv {w : Int} (h : 1 ≤ w ∧ w ≤ 24) : MInv (newM w) := by
  refine ⟨h, by simp [newM], by simp [newM]; omega, by simp [newM]; omega, by simp [newM], ?_, ?_, ?_, by simp [newM]⟩
  · intro l hl; have := List.eq_of_mem_replicate hl; subst this; simp
  · intro l hl; have := List.eq_of_mem_replicate hl; subst this; simp
  · intro l hl; have := List.eq_of_mem_replicate hl; subst this; simp
def yarnB (k : Int) : Bool := decide (k = 1 ∨ k = 2 ∨ k = 3 ∨ k = 5)
def ruleM (m : MachM) (o n : OpM) : Int :=
  if o.kind = 7 then (if o.rack = m.rack then 1 else if n.kind = 7 then 2 else 0)
  else if o.kind = 3 then (if yarnB n.kind = true ∧ n.car = o.car ∧ n.dir = o.dir ∧ 0 < (placeM n.fb n.fa m.rack - placeM o.fb o.fa m.rack) * o.dir then 3 else 0)
  else if o.kind = 4 then (if (onM m o.tb o.ta).length = 0 ∧ n.kind = 4 ∧ n.fb = o.tb ∧ n.fa = o.ta ∧ n.tb = o.fb ∧ n.ta = o.fa then 4 else 0)
  else if o.kind = 8 then (if n.kind = 9 ∧ n.car = o.car then 5 else 0)
  else 0
def opZ : OpM := ⟨0, 0, 0, 0, 0, 0, 0, 0⟩
def rulesM : MachM → List OpM → List Int
  | _, [] => []
  | m, o :: os => ruleM m o (os.headD opZ) :: rulesM (execM m o) os
theorem rulesM_length : ∀ (m : MachM) (ops : List OpM), (rulesM m ops).length = ops.length
  | _, [] => rfl
  | m, o :: os => by simp [rulesM, rulesM_length (execM m o) os]
theorem run_one {m : MachM} {a : OpM} {os : List OpM} (h : runM m (a :: os) = 0) : codeM m a = 0 ∧ runM (execM m a) os = 0 := by
  unfold runM at h
  by_cases h1 : codeM m a = 0
  · rw [if_pos h1] at h; exact ⟨h1, h⟩
  · rw [if_neg h1] at h; exact absurd h h1
theorem setCar_setCar (m : MachM) (c : Int) (x y : Bool × Int) : setCar (setCar m c x) c y = setCar m c y := by
  unfold setCar
  simp
theorem set_same {l : List (List Int)} {i : Nat} (hi : i < l.length) : l.set i (l.getD i []) = l := by
  rw [List.getD_eq_getElem?_getD, List.getElem?_eq_getElem hi, Option.getD_some, List.set_getElem_self]
/-- the first saving -/
def firstI : List Int → Nat → Int × Nat
  | [], _ => (0, 0)
  | r :: rs, k => if r = 0 then firstI rs (k + 1) else (r, k)
def firstM (w : Int) (ops : List OpM) : Int × Nat := firstI (rulesM (newM w) ops) 0
end Go.Proofs.Ytiiodfcbpmkodaa
