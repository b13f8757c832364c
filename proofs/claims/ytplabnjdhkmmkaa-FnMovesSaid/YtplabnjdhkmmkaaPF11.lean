/- Needles and operations that are valid: the program's tests and the reference's. No condition. The knitting machine as plain data: what an operation does, the rules of the optimizer; removing a saving keeps a program executable. No condition. The laws' helpers on nested slices. No condition. The laws' helpers on nested slices. No condition. Carriers as data: slices of them; the laws' own helpers on them: equal, marked, held. No condition but room for the numbers. The laws' own copies of slices of carriers, and their sizes. No condition but room. The laws' helpers on nested slices. No condition. The laws' helpers on nested slices. No condition. Plain words for machines: when one is valid. No condition. Contracts of the letters with which two blocks of strands change places. Conditions: few strands. Plain words: the events of racking a machine. No condition. All moves' operations. No condition. Operations' events in plain words; operations that make none; how a move of a column runs. No condition. A move of a column runs: in plain Lean. No condition. PlaceColumns' operations in plain words. No condition. Columns are placed and moved: how all operations run, in plain Lean. No condition. -/
import Derived.Test.YtplabnjdhkmmkaaPF5
import Derived.Test.YtplabnjdhkmmkaaPF10
import Derived.Test.YtplabnjdhkmmkaaPF2
import Derived.Test.YtplabnjdhkmmkaaPF6
import Derived.StillTailTactics
import Derived.Laws.AppendOwnNone
import Derived.Test.YtplabnjdhkmmkaaPF8
import Derived.Test.YtplabnjdhkmmkaaPF7
import Derived.Deep.RegionHeld3
section
set_option linter.unusedSimpArgs false
set_option linter.unusedVariables false
namespace Go.Proofs.Ytplabnjdhkmmkaa
open Go.ChangeShapes Go.WideShapes Go.ChangeAt Go.RowKit
def bedB (b : Int) : Bool := decide (b = 1 ∨ b = 2)
def placeB (a : Int) : Bool := decide (0 ≤ a ∧ a ≤ 23)
def needleB (b a : Int) : Bool := bedB b && placeB a
def dirB (d : Int) : Bool := decide (d = 1 ∨ d = -1)
def carB (c : Int) : Bool := decide (1 ≤ c ∧ c ≤ 4)
def rackB (r : Int) : Bool := decide (-3 ≤ r ∧ r ≤ 3)
theorem l01Bed_any (n : Int) (w : World) : Calls Try.prog 119 #[.int .i64 n] w fun e w' => e = .returned (.bool (bedB n)) ∧ w = w' := by
  by_cases h : n = 1 ∨ n = 2
  · rw [show bedB n = true from decide_eq_true h]
    have h' : 1 ≤ n ∧ n ≤ 2 := by omega
    clear h
    go_enter Try.func119, Try.ntmps119
    go_wp2_with (first | (go_at_call 64; refine (l00In_yes _ _ _ _ ?_).mono ?_; (omega); rintro e w' ⟨rfl, rfl⟩))
    go_ret
    exact ⟨rfl, rfl⟩
  · rw [show bedB n = false from decide_eq_false h]
    have h' : n < 1 ∨ 2 < n := by omega
    clear h
    go_enter Try.func119, Try.ntmps119
    go_wp2_with (first | (go_at_call 64; refine (l00In_no _ _ _ _ ?_).mono ?_; (omega); rintro e w' ⟨rfl, rfl⟩))
    go_ret
    exact ⟨rfl, rfl⟩
theorem l01Needle_any (w : World) (b a : Int) : Calls Try.prog 90 #[.agg #[.int .i64 b, .int .i64 a]] w fun e w' => e = .returned (.bool (needleB b a)) ∧ ∃ o, w' = w.alloc o := by
  cases h1 : bedB b
  · skip
    rw [show needleB b a = false by simp [needleB, h1]]
    go_enter Try.func90, Try.ntmps90
    go_wp2_with (first | (go_at_call 119; refine (l01Bed_any _ _).mono ?_; rintro e w' ⟨rfl, rfl⟩; rw [h1]))
    go_ret
    exact ⟨rfl, _, rfl⟩
  · cases h2 : placeB a
    · have h3 : a < 0 ∨ 23 < a := by have := of_decide_eq_false h2; omega
      rw [show needleB b a = false by simp [needleB, h1, h2]]
      go_enter Try.func90, Try.ntmps90
      go_wp2_with (first | (go_at_call 119; refine (l01Bed_any _ _).mono ?_; rintro e w' ⟨rfl, rfl⟩; rw [h1]) | (go_at_call 64; refine (l00In_no _ _ _ _ ?_).mono ?_; (omega); rintro e w' ⟨rfl, rfl⟩))
      go_ret
      exact ⟨rfl, _, rfl⟩
    · have h3 := of_decide_eq_true h2
      rw [show needleB b a = true by simp [needleB, h1, h2]]
      go_enter Try.func90, Try.ntmps90
      go_wp2_with (first | (go_at_call 119; refine (l01Bed_any _ _).mono ?_; rintro e w' ⟨rfl, rfl⟩; rw [h1]) | (go_at_call 64; refine (l00In_yes _ _ _ _ ?_).mono ?_; (omega); rintro e w' ⟨rfl, rfl⟩))
      go_ret
      exact ⟨rfl, _, rfl⟩
theorem l07Dir_any (n : Int) (w : World) : Calls Try.prog 89 #[.int .i64 n] w fun e w' => e = .returned (.bool (dirB n)) ∧ w = w' := by
  cases h : dirB n
  · have h1 := of_decide_eq_false h
    exact l07Dir_no n w (by omega)
  · have h1 := of_decide_eq_true h
    exact l07Dir_yes n w (by omega)
theorem l07Yarn_any (n : Int) (w : World) : Calls Try.prog 91 #[.int .i64 n] w fun e w' => e = .returned (.bool (carB n)) ∧ w = w' := by
  cases h : carB n
  · have h1 := of_decide_eq_false h
    exact l07Yarn_no n w (by omega)
  · have h1 := of_decide_eq_true h
    exact l07Yarn_yes n w (by omega)
/-- what operations are valid -/
def validB (x : OpM) : Bool :=
  if x.kind = 1 ∨ x.kind = 2 ∨ x.kind = 3 then dirB x.dir && needleB x.fb x.fa && carB x.car && x.tb == 0 && x.ta == 0 && x.rack == 0
  else if x.kind = 4 then needleB x.fb x.fa && needleB x.tb x.ta && x.fb != x.tb && x.dir == 0 && x.car == 0 && x.rack == 0
  else if x.kind = 5 then needleB x.fb x.fa && needleB x.tb x.ta && x.fb != x.tb && dirB x.dir && carB x.car && x.rack == 0
  else if x.kind = 6 then needleB x.fb x.fa && x.dir == 0 && x.tb == 0 && x.ta == 0 && x.car == 0 && x.rack == 0
  else if x.kind = 7 then rackB x.rack && x.dir == 0 && x.fb == 0 && x.fa == 0 && x.tb == 0 && x.ta == 0 && x.car == 0
  else if x.kind = 8 then dirB x.dir && carB x.car && x.fb == 0 && x.fa == 0 && x.tb == 0 && x.ta == 0 && x.rack == 0
  else if x.kind = 9 then carB x.car && x.dir == 0 && x.fb == 0 && x.fa == 0 && x.tb == 0 && x.ta == 0 && x.rack == 0
  else false
end Go.Proofs.Ytplabnjdhkmmkaa
end
section
set_option linter.unusedSimpArgs false
set_option linter.unusedVariables false
namespace Go.Proofs.Ytplabnjdhkmmkaa
structure MachM where
  wd : Int
  rack : Int
  fr : List (List Int)
  bk : List (List Int)
  cs : List (Bool × Int)
  nl : Nat
def bedOf (m : MachM) (b : Int) : List (List Int) := if b = 2 then m.bk else m.fr
def onM (m : MachM) (b a : Int) : List Int := (bedOf m b).getD a.toNat []
def setM (m : MachM) (b a : Int) (l : List Int) : MachM := if b = 2 then { m with bk := m.bk.set a.toNat l } else { m with fr := m.fr.set a.toNat l }
def placeM (b a r : Int) : Int := if b = 2 then a + r else a
def carAt (m : MachM) (c : Int) : Bool × Int := m.cs.getD (c - 1).toNat (false, 0)
def setCar (m : MachM) (c : Int) (x : Bool × Int) : MachM := { m with cs := m.cs.set (c - 1).toNat x }
def fitsM (m : MachM) (o : OpM) : Bool :=
  if o.kind = 4 ∨ o.kind = 6 ∨ o.kind = 7 then true
  else if o.kind = 8 then !(carAt m o.car).1
  else if o.kind = 9 then (carAt m o.car).1
  else (carAt m o.car).1 && decide ((o.dir = 1 ∧ (carAt m o.car).2 ≤ placeM o.fb o.fa m.rack) ∨ (o.dir = -1 ∧ placeM o.fb o.fa m.rack + 1 ≤ (carAt m o.car).2))
def makesB (k : Int) : Bool := decide (k = 1 ∨ k = 2 ∨ k = 5)
def codeM (m : MachM) (o : OpM) : Int :=
  if fitsM m o = false then 9
  else if makesB o.kind = true ∧ m.nl = 300 then 5
  else if o.kind = 2 ∧ (onM m o.fb o.fa).length = 4 then 5
  else if o.kind = 6 then (if (onM m o.fb o.fa).length = 0 then 7 else 0)
  else if o.kind = 4 ∨ o.kind = 5 then
    (if placeM o.fb o.fa m.rack ≠ placeM o.tb o.ta m.rack then 8
     else if (onM m o.fb o.fa).length = 0 then 7
     else if 4 < (onM m o.fb o.fa).length + (onM m o.tb o.ta).length then 5 else 0)
  else 0
def behindM (m : MachM) (o : OpM) : Int := placeM o.fb o.fa m.rack + (if o.dir = 1 then 1 else 0)
def ridM (m : MachM) (o : OpM) : MachM := setCar m o.car ((carAt m o.car).1, behindM m o)
def loopM (m : MachM) (o : OpM) : MachM := { setM m o.fb o.fa (onM m o.fb o.fa ++ [(m.nl : Int)]) with nl := m.nl + 1 }
def bothM (m : MachM) (o : OpM) : List Int := if o.tb = 2 then onM m o.fb o.fa ++ onM m o.tb o.ta else onM m o.tb o.ta ++ onM m o.fb o.fa
def shiftM (m : MachM) (o : OpM) : MachM := setM (setM m o.tb o.ta (bothM m o)) o.fb o.fa []
def execM (m : MachM) (o : OpM) : MachM :=
  if o.kind = 1 then ridM (loopM (setM m o.fb o.fa []) o) o
  else if o.kind = 2 then ridM (loopM m o) o
  else if o.kind = 3 then ridM m o
  else if o.kind = 4 then shiftM m o
  else if o.kind = 5 then ridM (loopM (shiftM m o) o) o
  else if o.kind = 6 then setM m o.fb o.fa []
  else if o.kind = 7 then { m with rack := o.rack }
  else if o.kind = 8 then setCar m o.car (true, if o.dir = -1 then m.wd + 3 else -3)
  else setCar m o.car (false, 0)
/-- what holds of every machine that is reached -/
structure MInv (m : MachM) : Prop where
  wd : 1 ≤ m.wd ∧ m.wd ≤ 24
  rack : -3 ≤ m.rack ∧ m.rack ≤ 3
  fl : (m.fr.length : Int) = m.wd
  bl : (m.bk.length : Int) = m.wd
  cl : m.cs.length = 4
  fs : ∀ l ∈ m.fr, l.length ≤ 4 ∧ ∀ x ∈ l, 0 ≤ x ∧ x ≤ 300
  bs : ∀ l ∈ m.bk, l.length ≤ 4 ∧ ∀ x ∈ l, 0 ≤ x ∧ x ≤ 300
  ca : ∀ c ∈ m.cs, -100 ≤ c.2 ∧ c.2 ≤ 100 ∧ (c.1 = false → c.2 = 0)
  nl : m.nl ≤ 300
/-- an operation that is valid for a width -/
def okOp (w : Int) (o : OpM) : Prop := validB o = true ∧ o.fa < w ∧ o.ta < w
theorem needle_of {b a : Int} (h : needleB b a = true) : (b = 1 ∨ b = 2) ∧ 0 ≤ a ∧ a ≤ 23 := by
  unfold needleB bedB placeB at h
  simp only [Bool.and_eq_true, decide_eq_true_eq] at h
  exact h
theorem car_of {c : Int} (h : carB c = true) : 1 ≤ c ∧ c ≤ 4 := by unfold carB at h; exact of_decide_eq_true h
theorem dir_of {d : Int} (h : dirB d = true) : d = 1 ∨ d = -1 := by unfold dirB at h; exact of_decide_eq_true h
theorem rack_of {r : Int} (h : rackB r = true) : -3 ≤ r ∧ r ≤ 3 := by unfold rackB at h; exact of_decide_eq_true h
/-- what a valid operation is, by its kind -/
theorem valid_cases {o : OpM} (h : validB o = true) :
    ((o.kind = 1 ∨ o.kind = 2 ∨ o.kind = 3) ∧ (o.dir = 1 ∨ o.dir = -1) ∧ ((o.fb = 1 ∨ o.fb = 2) ∧ 0 ≤ o.fa ∧ o.fa ≤ 23) ∧ (1 ≤ o.car ∧ o.car ≤ 4) ∧ o.tb = 0 ∧ o.ta = 0 ∧ o.rack = 0) ∨
    (o.kind = 4 ∧ ((o.fb = 1 ∨ o.fb = 2) ∧ 0 ≤ o.fa ∧ o.fa ≤ 23) ∧ ((o.tb = 1 ∨ o.tb = 2) ∧ 0 ≤ o.ta ∧ o.ta ≤ 23) ∧ o.fb ≠ o.tb ∧ o.dir = 0 ∧ o.car = 0 ∧ o.rack = 0) ∨
    (o.kind = 5 ∧ ((o.fb = 1 ∨ o.fb = 2) ∧ 0 ≤ o.fa ∧ o.fa ≤ 23) ∧ ((o.tb = 1 ∨ o.tb = 2) ∧ 0 ≤ o.ta ∧ o.ta ≤ 23) ∧ o.fb ≠ o.tb ∧ (o.dir = 1 ∨ o.dir = -1) ∧ (1 ≤ o.car ∧ o.car ≤ 4) ∧ o.rack = 0) ∨
    (o.kind = 6 ∧ ((o.fb = 1 ∨ o.fb = 2) ∧ 0 ≤ o.fa ∧ o.fa ≤ 23) ∧ o.dir = 0 ∧ o.tb = 0 ∧ o.ta = 0 ∧ o.car = 0 ∧ o.rack = 0) ∨
    (o.kind = 7 ∧ (-3 ≤ o.rack ∧ o.rack ≤ 3) ∧ o.dir = 0 ∧ o.fb = 0 ∧ o.fa = 0 ∧ o.tb = 0 ∧ o.ta = 0 ∧ o.car = 0) ∨
    (o.kind = 8 ∧ (o.dir = 1 ∨ o.dir = -1) ∧ (1 ≤ o.car ∧ o.car ≤ 4) ∧ o.fb = 0 ∧ o.fa = 0 ∧ o.tb = 0 ∧ o.ta = 0 ∧ o.rack = 0) ∨
    (o.kind = 9 ∧ (1 ≤ o.car ∧ o.car ≤ 4) ∧ o.dir = 0 ∧ o.fb = 0 ∧ o.fa = 0 ∧ o.tb = 0 ∧ o.ta = 0 ∧ o.rack = 0) := by
  unfold validB at h
  by_cases h1 : o.kind = 1 ∨ o.kind = 2 ∨ o.kind = 3
  · rw [if_pos h1] at h
    simp only [Bool.and_eq_true, beq_iff_eq] at h
    exact .inl ⟨h1, dir_of h.1.1.1.1.1, needle_of h.1.1.1.1.2, car_of h.1.1.1.2, h.1.1.2, h.1.2, h.2⟩
  rw [if_neg h1] at h
  by_cases h4 : o.kind = 4
  · rw [if_pos h4] at h
    simp only [Bool.and_eq_true, beq_iff_eq, bne_iff_ne] at h
    exact .inr (.inl ⟨h4, needle_of h.1.1.1.1.1, needle_of h.1.1.1.1.2, h.1.1.1.2, h.1.1.2, h.1.2, h.2⟩)
  rw [if_neg h4] at h
  by_cases h5 : o.kind = 5
  · rw [if_pos h5] at h
    simp only [Bool.and_eq_true, beq_iff_eq, bne_iff_ne] at h
    exact .inr (.inr (.inl ⟨h5, needle_of h.1.1.1.1.1, needle_of h.1.1.1.1.2, h.1.1.1.2, dir_of h.1.1.2, car_of h.1.2, h.2⟩))
  rw [if_neg h5] at h
  by_cases h6 : o.kind = 6
  · rw [if_pos h6] at h
    simp only [Bool.and_eq_true, beq_iff_eq] at h
    exact .inr (.inr (.inr (.inl ⟨h6, needle_of h.1.1.1.1.1, h.1.1.1.1.2, h.1.1.1.2, h.1.1.2, h.1.2, h.2⟩)))
  rw [if_neg h6] at h
  by_cases h7 : o.kind = 7
  · rw [if_pos h7] at h
    simp only [Bool.and_eq_true, beq_iff_eq] at h
    exact .inr (.inr (.inr (.inr (.inl ⟨h7, rack_of h.1.1.1.1.1.1, h.1.1.1.1.1.2, h.1.1.1.1.2, h.1.1.1.2, h.1.1.2, h.1.2, h.2⟩))))
  rw [if_neg h7] at h
  by_cases h8 : o.kind = 8
  · rw [if_pos h8] at h
    simp only [Bool.and_eq_true, beq_iff_eq] at h
    exact .inr (.inr (.inr (.inr (.inr (.inl ⟨h8, dir_of h.1.1.1.1.1.1, car_of h.1.1.1.1.1.2, h.1.1.1.1.2, h.1.1.1.2, h.1.1.2, h.1.2, h.2⟩)))))
  rw [if_neg h8] at h
  by_cases h9 : o.kind = 9
  · rw [if_pos h9] at h
    simp only [Bool.and_eq_true, beq_iff_eq] at h
    exact .inr (.inr (.inr (.inr (.inr (.inr ⟨h9, car_of h.1.1.1.1.1.1, h.1.1.1.1.1.2, h.1.1.1.1.2, h.1.1.1.2, h.1.1.2, h.1.2, h.2⟩)))))
  rw [if_neg h9] at h
  cases h
/-- a needle of a machine -/
def okN (m : MachM) (b a : Int) : Prop := (b = 1 ∨ b = 2) ∧ 0 ≤ a ∧ a < m.wd
theorem MInv.bed {m : MachM} (h : MInv m) (b : Int) : ((bedOf m b).length : Int) = m.wd ∧ ∀ l ∈ bedOf m b, l.length ≤ 4 ∧ ∀ x ∈ l, 0 ≤ x ∧ x ≤ 300 := by
  unfold bedOf
  split
  · exact ⟨h.bl, h.bs⟩
  · exact ⟨h.fl, h.fs⟩
theorem MInv.on_ {m : MachM} (h : MInv m) (b a : Int) : (onM m b a).length ≤ 4 ∧ ∀ x ∈ onM m b a, 0 ≤ x ∧ x ≤ 300 := by
  unfold onM
  rw [List.getD_eq_getElem?_getD]
  rcases hh : (bedOf m b)[a.toNat]? with _ | l
  · simp
  · exact (h.bed b).2 l (List.mem_of_getElem? hh)
theorem MInv.setM_ {m : MachM} (h : MInv m) (b a : Int) {l : List Int} (hl : l.length ≤ 4 ∧ ∀ x ∈ l, 0 ≤ x ∧ x ≤ 300) : MInv (setM m b a l) := by
  unfold setM
  split
  · exact ⟨h.wd, h.rack, h.fl, by simpa using h.bl, h.cl, h.fs, fun k hk => (List.mem_or_eq_of_mem_set hk).elim (h.bs k) (fun e => e ▸ hl), h.ca, h.nl⟩
  · exact ⟨h.wd, h.rack, by simpa using h.fl, h.bl, h.cl, fun k hk => (List.mem_or_eq_of_mem_set hk).elim (h.fs k) (fun e => e ▸ hl), h.bs, h.ca, h.nl⟩
theorem MInv.setCar_ {m : MachM} (h : MInv m) (c : Int) {x : Bool × Int} (hx : -100 ≤ x.2 ∧ x.2 ≤ 100 ∧ (x.1 = false → x.2 = 0)) : MInv (setCar m c x) :=
  ⟨h.wd, h.rack, h.fl, h.bl, by simpa [setCar] using h.cl, h.fs, h.bs, fun k hk => (List.mem_or_eq_of_mem_set hk).elim (h.ca k) (fun e => e ▸ hx), h.nl⟩
theorem setM_same {m : MachM} (b a : Int) (l : List Int) : (setM m b a l).wd = m.wd ∧ (setM m b a l).rack = m.rack ∧ (setM m b a l).cs = m.cs ∧ (setM m b a l).nl = m.nl := by
  unfold setM; split <;> exact ⟨rfl, rfl, rfl, rfl⟩
theorem bedOf_setM (m : MachM) (b a : Int) (l : List Int) : bedOf (setM m b a l) b = (bedOf m b).set a.toNat l := by
  unfold setM bedOf
  split
  · rfl
  · rfl
theorem onM_setM {m : MachM} (h : MInv m) {b a : Int} (l : List Int) (ha : 0 ≤ a ∧ a < m.wd) : onM (setM m b a l) b a = l := by
  unfold onM
  rw [bedOf_setM, List.getD_eq_getElem?_getD, List.getElem?_set_self (by have := (h.bed b).1; omega)]
  rfl
theorem carAt_fits {m : MachM} (h : MInv m) {c : Int} (hc : 1 ≤ c ∧ c ≤ 4) : -100 ≤ (carAt m c).2 ∧ (carAt m c).2 ≤ 100 ∧ ((carAt m c).1 = false → (carAt m c).2 = 0) := by
  unfold carAt
  have hlt : (c - 1).toNat < m.cs.length := by rw [h.cl]; omega
  rw [List.getD_eq_getElem?_getD, List.getElem?_eq_getElem hlt, Option.getD_some]
  exact h.ca _ (List.getElem_mem hlt)
theorem placeM_bd {b a r : Int} (ha : 0 ≤ a ∧ a ≤ 23) (hr : -3 ≤ r ∧ r ≤ 3) : -3 ≤ placeM b a r ∧ placeM b a r ≤ 26 := by unfold placeM; split <;> omega
theorem behindM_bd {m : MachM} (h : MInv m) {o : OpM} (ha : 0 ≤ o.fa ∧ o.fa ≤ 23) : -3 ≤ behindM m o ∧ behindM m o ≤ 27 := by
  have := placeM_bd (b := o.fb) ha h.rack
  unfold behindM
  split <;> omega
theorem MInv.rid {m : MachM} (h : MInv m) {o : OpM} (ha : 0 ≤ o.fa ∧ o.fa ≤ 23) (hin : (carAt m o.car).1 = true) : MInv (ridM m o) := by
  have := behindM_bd h ha
  exact h.setCar_ _ ⟨by omega, by omega, fun hh => by rw [hin] at hh; cases hh⟩
theorem MInv.loop {m : MachM} (h : MInv m) {o : OpM} (h1 : (onM m o.fb o.fa).length ≤ 3) (h2 : m.nl < 300) : MInv (loopM m o) := by
  have h3 := (h.on_ o.fb o.fa).2
  have h4 := h.setM_ o.fb o.fa (l := onM m o.fb o.fa ++ [(m.nl : Int)]) ⟨by simp; omega, fun x hx => by
    rcases List.mem_append.1 hx with hx | hx
    · exact h3 x hx
    · simp at hx; omega⟩
  exact ⟨h4.wd, h4.rack, h4.fl, h4.bl, h4.cl, h4.fs, h4.bs, h4.ca, by show m.nl + 1 ≤ 300; omega⟩
theorem bothM_ok {m : MachM} (h : MInv m) {o : OpM} (hl : (onM m o.fb o.fa).length + (onM m o.tb o.ta).length ≤ 4) : (bothM m o).length ≤ 4 ∧ ∀ x ∈ bothM m o, 0 ≤ x ∧ x ≤ 300 := by
  have h1 := (h.on_ o.fb o.fa).2
  have h2 := (h.on_ o.tb o.ta).2
  unfold bothM
  split
  · exact ⟨by simp; omega, fun x hx => (List.mem_append.1 hx).elim (h1 x) (h2 x)⟩
  · exact ⟨by simp; omega, fun x hx => (List.mem_append.1 hx).elim (h2 x) (h1 x)⟩
theorem MInv.shift {m : MachM} (h : MInv m) {o : OpM} (hl : (onM m o.fb o.fa).length + (onM m o.tb o.ta).length ≤ 4) : MInv (shiftM m o) :=
  (h.setM_ _ _ (bothM_ok h hl)).setM_ _ _ ⟨by simp, by simp⟩
/-- what it means that an operation can be carried out -/
theorem code_zero {m : MachM} {o : OpM} (h : codeM m o = 0) :
    fitsM m o = true ∧ (makesB o.kind = true → m.nl ≠ 300) ∧ (o.kind = 2 → (onM m o.fb o.fa).length ≠ 4) ∧ (o.kind = 6 → (onM m o.fb o.fa).length ≠ 0) ∧
    (o.kind = 4 ∨ o.kind = 5 → placeM o.fb o.fa m.rack = placeM o.tb o.ta m.rack ∧ (onM m o.fb o.fa).length ≠ 0 ∧ (onM m o.fb o.fa).length + (onM m o.tb o.ta).length ≤ 4) := by
  unfold codeM at h
  by_cases h1 : fitsM m o = false
  · rw [if_pos h1] at h; omega
  rw [if_neg h1] at h
  by_cases h2 : makesB o.kind = true ∧ m.nl = 300
  · rw [if_pos h2] at h; omega
  rw [if_neg h2] at h
  by_cases h3 : o.kind = 2 ∧ (onM m o.fb o.fa).length = 4
  · rw [if_pos h3] at h; omega
  rw [if_neg h3] at h
  refine ⟨by simpa using h1, fun a b => h2 ⟨a, b⟩, fun a b => h3 ⟨a, b⟩, fun h6 => ?_, fun h45 => ?_⟩
  · rw [if_pos h6] at h
    intro hh
    rw [if_pos hh] at h
    omega
  · rw [if_neg (by omega), if_pos h45] at h
    by_cases h4 : placeM o.fb o.fa m.rack ≠ placeM o.tb o.ta m.rack
    · rw [if_pos h4] at h; omega
    rw [if_neg h4] at h
    by_cases h5 : (onM m o.fb o.fa).length = 0
    · rw [if_pos h5] at h; omega
    rw [if_neg h5] at h
    by_cases h6 : 4 < (onM m o.fb o.fa).length + (onM m o.tb o.ta).length
    · rw [if_pos h6] at h; omega
    exact ⟨by simpa using h4, h5, by omega⟩
theorem fits_in {m : MachM} {o : OpM} (h : fitsM m o = true) (hk : o.kind = 1 ∨ o.kind = 2 ∨ o.kind = 3 ∨ o.kind = 5) : (carAt m o.car).1 = true ∧ ((o.dir = 1 ∧ (carAt m o.car).2 ≤ placeM o.fb o.fa m.rack) ∨ (o.dir = -1 ∧ placeM o.fb o.fa m.rack + 1 ≤ (carAt m o.car).2)) := by
  unfold fitsM at h
  rw [if_neg (by omega), if_neg (by omega), if_neg (by omega), Bool.and_eq_true, decide_eq_true_eq] at h
  exact h
theorem MInv.exec {m : MachM} (h : MInv m) {o : OpM} (ho : okOp m.wd o) (hc : codeM m o = 0) : MInv (execM m o) := by
  obtain ⟨hv, hf, ht⟩ := ho
  obtain ⟨c1, c2, c3, c4, c5⟩ := code_zero hc
  unfold execM
  rcases valid_cases hv with ⟨hk, hd, hn, hcar, _⟩ | ⟨hk, hn, hn2, _⟩ | ⟨hk, hn, hn2, _, hd, hcar, _⟩ | ⟨hk, hn, _⟩ | ⟨hk, hr, _⟩ | ⟨hk, hd, hcar, _⟩ | ⟨hk, hcar, _⟩
  · have hin := (fits_in c1 (by omega)).1
    rcases hk with hk | hk | hk
    · rw [if_pos hk]
      have h0 := h.setM_ o.fb o.fa (l := []) ⟨by simp, by simp⟩
      have he : onM (setM m o.fb o.fa []) o.fb o.fa = [] := onM_setM h [] ⟨hn.2.1, hf⟩
      have hs := setM_same (m := m) o.fb o.fa []
      have h1 := h0.loop (o := o) (by rw [he]; simp) (by rw [hs.2.2.2]; have := c2 (by unfold makesB; simp [hk]); have := h.nl; omega)
      refine h1.rid hn.2 ?_
      show (carAt (setM (setM m o.fb o.fa []) o.fb o.fa _) o.car).1 = true
      unfold carAt at hin ⊢
      rw [(setM_same _ _ _).2.2.1, hs.2.2.1]
      exact hin
    · rw [if_neg (by omega), if_pos hk]
      have h1 := h.loop (o := o) (by have := (h.on_ o.fb o.fa).1; have := c3 hk; omega) (by have := c2 (by unfold makesB; simp [hk]); have := h.nl; omega)
      refine h1.rid hn.2 ?_
      show (carAt (setM m o.fb o.fa _) o.car).1 = true
      unfold carAt at hin ⊢
      rw [(setM_same _ _ _).2.2.1]
      exact hin
    · rw [if_neg (by omega), if_neg (by omega), if_pos hk]
      exact h.rid hn.2 hin
  · rw [if_neg (by omega), if_neg (by omega), if_neg (by omega), if_pos hk]
    exact h.shift (c5 (.inl hk)).2.2
  · rw [if_neg (by omega), if_neg (by omega), if_neg (by omega), if_neg (by omega), if_pos hk]
    have hin := (fits_in c1 (by omega)).1
    have h0 := h.shift (c5 (.inr hk)).2.2
    have he : onM (shiftM m o) o.fb o.fa = [] := onM_setM (h.setM_ _ _ (bothM_ok h (c5 (.inr hk)).2.2)) [] ⟨hn.2.1, by rw [(setM_same _ _ _).1]; exact hf⟩
    have hnl : (shiftM m o).nl = m.nl := by unfold shiftM; rw [(setM_same _ _ _).2.2.2, (setM_same _ _ _).2.2.2]
    have h1 := h0.loop (o := o) (by rw [he]; simp) (by rw [hnl]; have := c2 (by unfold makesB; simp [hk]); have := h.nl; omega)
    refine h1.rid hn.2 ?_
    show (carAt (setM (shiftM m o) o.fb o.fa _) o.car).1 = true
    unfold carAt at hin ⊢
    rw [(setM_same _ _ _).2.2.1]
    unfold shiftM
    rw [(setM_same _ _ _).2.2.1, (setM_same _ _ _).2.2.1]
    exact hin
  · rw [if_neg (by omega), if_neg (by omega), if_neg (by omega), if_neg (by omega), if_neg (by omega), if_pos hk]
    exact h.setM_ _ _ ⟨by simp, by simp⟩
  · rw [if_neg (by omega), if_neg (by omega), if_neg (by omega), if_neg (by omega), if_neg (by omega), if_neg (by omega), if_pos hk]
    exact ⟨h.wd, hr, h.fl, h.bl, h.cl, h.fs, h.bs, h.ca, h.nl⟩
  · rw [if_neg (by omega), if_neg (by omega), if_neg (by omega), if_neg (by omega), if_neg (by omega), if_neg (by omega), if_neg (by omega), if_pos hk]
    refine h.setCar_ _ ?_
    have := h.wd
    dsimp only
    split <;> refine ⟨by omega, by omega, fun hh => by cases hh⟩
  · rw [if_neg (by omega), if_neg (by omega), if_neg (by omega), if_neg (by omega), if_neg (by omega), if_neg (by omega), if_neg (by omega), if_neg (by omega)]
    exact h.setCar_ _ ⟨by simp, by simp, by simp⟩
theorem execM_wd (m : MachM) (o : OpM) : (execM m o).wd = m.wd := by
  unfold execM ridM loopM shiftM setCar
  repeat' split
  all_goals (first | rfl | (simp only [(setM_same _ _ _).1]))
def runM : MachM → List OpM → Int
  | _, [] => 0
  | m, o :: os => if codeM m o = 0 then runM (execM m o) os else codeM m o
def newM (w : Int) : MachM := ⟨w, 0, List.replicate w.toNat [], List.replicate w.toNat [], List.replicate 4 (false, 0), 0⟩
theorem newM_inv {w : Int} (h : 1 ≤ w ∧ w ≤ 24) : MInv (newM w) := by
  refine ⟨h, by simp [newM], by simp [newM]; omega, by simp [newM]; omega, by simp [newM], ?_, ?_, ?_, by simp [newM]⟩
  · intro l hl; have := List.eq_of_mem_replicate hl; subst this; simp
  · intro l hl; have := List.eq_of_mem_replicate hl; subst this; simp
  · intro l hl; have := List.eq_of_mem_replicate hl; subst this; simp
def opZ : OpM := ⟨0, 0, 0, 0, 0, 0, 0, 0⟩
theorem code_mk {m : MachM} {o : OpM} (h1 : fitsM m o = true) (h2 : makesB o.kind = true → m.nl ≠ 300) (h3 : o.kind = 2 → (onM m o.fb o.fa).length ≠ 4) (h4 : o.kind = 6 → (onM m o.fb o.fa).length ≠ 0)
    (h5 : o.kind = 4 ∨ o.kind = 5 → placeM o.fb o.fa m.rack = placeM o.tb o.ta m.rack ∧ (onM m o.fb o.fa).length ≠ 0 ∧ (onM m o.fb o.fa).length + (onM m o.tb o.ta).length ≤ 4) : codeM m o = 0 := by
  unfold codeM
  rw [if_neg (by rw [h1]; simp), if_neg (fun h => h2 h.1 h.2), if_neg (fun h => h3 h.1 h.2)]
  by_cases h6 : o.kind = 6
  · rw [if_pos h6, if_neg (h4 h6)]
  rw [if_neg h6]
  by_cases h45 : o.kind = 4 ∨ o.kind = 5
  · have := h5 h45
    rw [if_pos h45, if_neg (by simpa using this.1), if_neg this.2.1, if_neg (by omega)]
  · rw [if_neg h45]
theorem code7 {m : MachM} {o : OpM} (h : o.kind = 7) : codeM m o = 0 :=
  code_mk (by unfold fitsM; rw [if_pos (by omega)]) (fun h2 => by unfold makesB at h2; have := of_decide_eq_true h2; omega) (by omega) (by omega) (by omega)
theorem carAt_setCar {m : MachM} (h : m.cs.length = 4) {c : Int} (hc : 1 ≤ c ∧ c ≤ 4) (x : Bool × Int) : carAt (setCar m c x) c = x := by
  unfold carAt setCar
  rw [List.getD_eq_getElem?_getD, List.getElem?_set_self (by omega)]
  rfl
theorem setCar_setCar (m : MachM) (c : Int) (x y : Bool × Int) : setCar (setCar m c x) c y = setCar m c y := by
  unfold setCar
  simp
theorem set_same {l : List (List Int)} {i : Nat} (hi : i < l.length) : l.set i (l.getD i []) = l := by
  rw [List.getD_eq_getElem?_getD, List.getElem?_eq_getElem hi, Option.getD_some, List.set_getElem_self]
end Go.Proofs.Ytplabnjdhkmmkaa
end
section
set_option maxRecDepth 100000
set_option maxHeartbeats 1000000
set_option linter.unusedSimpArgs false
set_option linter.unusedVariables false
namespace Go.Proofs.Ytplabnjdhkmmkaa
open Go.ChangeShapes Go.WideShapes Go.ChangeAt Go.RowKit
def IntsL (w : World) (M H L : Nat → Prop) (v : Value) (xs : List Int) : Prop := Ints w L v xs
theorem IntsL.keep {M H L T : Nat → Prop} {w w' : World} {v : Value} {xs : List Int} (h : IntsL w M H L v xs) (g : Chg T w w') (hd : ∀ b, M b ∨ H b ∨ L b → ¬ T b) : IntsL w' M H L v xs := Ints.keep h g (fun b _ hb => hd b (.inr (.inr hb)))
theorem IntsL.up {M H L : Nat → Prop} {w w' : World} {v : Value} {xs : List Int} (h : IntsL w M H L v xs) (g : Up w w') : IntsL w' M H L v xs := Ints.up h g
theorem IntsL.mono {M H L M' H' L' : Nat → Prop} {w : World} {v : Value} {xs : List Int} (h : IntsL w M H L v xs) (hm : ∀ b, b < w.heap.size → M b → M' b) (hr : ∀ b, b < w.heap.size → H b → H' b) (hl : ∀ b, b < w.heap.size → L b → L' b) : IntsL w M' H' L' v xs := Ints.mono h hl
theorem IntsL.shape {M H L : Nat → Prop} {w : World} {v : Value} {xs : List Int} (h : IntsL w M H L v xs) : ∃ A c, v = .slice A xs.length c ∧ xs.length ≤ c ∧ c ≤ 9223372036854775807 ∧ (A = none → c = 0) := Ints.shape h
end Go.Proofs.Ytplabnjdhkmmkaa
end
section
set_option maxRecDepth 100000
set_option maxHeartbeats 1000000
set_option linter.unusedSimpArgs false
set_option linter.unusedVariables false
namespace Go.Proofs.Ytplabnjdhkmmkaa
open Go.ChangeShapes Go.WideShapes Go.ChangeAt Go.RowKit
structure InfM where
  kd : Int
  car : Int
  bed : Int
  at_ : Int
  dir : Int
  ps : List Int
def InfoE (M H L : Nat → Prop) (w : World) (vs : List Value) (x : InfM) : Prop := ∃ A c, vs = [.int .i64 x.kd, .int .i64 x.car, .int .i64 x.bed, .int .i64 x.at_, .int .i64 x.dir, .slice A x.ps.length c] ∧ IntsL w M H L (.slice A x.ps.length c) x.ps ∧ (x.ps.length ≤ c ∧ c ≤ 9223372036854775807) ∧ I64 x.kd ∧ I64 x.car ∧ I64 x.bed ∧ I64 x.at_ ∧ I64 x.dir
theorem InfoE.keep {M H L T : Nat → Prop} {w w' : World} {vs : List Value} {x : InfM} (h : InfoE M H L w vs x) (g : Chg T w w') (hd : ∀ b, M b ∨ H b ∨ L b → ¬ T b) : InfoE M H L w' vs x := let ⟨A, c, he, h0, h1, h2, h3, h4, h5, h6⟩ := h; ⟨A, c, he, h0.keep g hd, h1, h2, h3, h4, h5, h6⟩
theorem InfoE.up {M H L : Nat → Prop} {w w' : World} {vs : List Value} {x : InfM} (h : InfoE M H L w vs x) (g : Up w w') : InfoE M H L w' vs x := h.keep g fun _ _ h => h
theorem InfoE.mono {M H L M' H' L' : Nat → Prop} {w : World} {vs : List Value} {x : InfM} (h : InfoE M H L w vs x) (hm : ∀ b, b < w.heap.size → M b → M' b) (hr : ∀ b, b < w.heap.size → H b → H' b) (hl : ∀ b, b < w.heap.size → L b → L' b) : InfoE M' H' L' w vs x := let ⟨A, c, he, h0, h1, h2, h3, h4, h5, h6⟩ := h; ⟨A, c, he, h0.mono hm hr hl, h1, h2, h3, h4, h5, h6⟩
def InfoV (w : World) (M H L : Nat → Prop) (v : Value) (x : InfM) : Prop := ∃ A c, v = .agg #[.int .i64 x.kd, .int .i64 x.car, .int .i64 x.bed, .int .i64 x.at_, .int .i64 x.dir, .slice A x.ps.length c] ∧ IntsL w M H L (.slice A x.ps.length c) x.ps ∧ (x.ps.length ≤ c ∧ c ≤ 9223372036854775807) ∧ I64 x.kd ∧ I64 x.car ∧ I64 x.bed ∧ I64 x.at_ ∧ I64 x.dir
theorem InfoV.keep {M H L T : Nat → Prop} {w w' : World} {v : Value} {x : InfM} (h : InfoV w M H L v x) (g : Chg T w w') (hd : ∀ b, M b ∨ H b ∨ L b → ¬ T b) : InfoV w' M H L v x := let ⟨A, c, he, h0, h1, h2, h3, h4, h5, h6⟩ := h; ⟨A, c, he, h0.keep g hd, h1, h2, h3, h4, h5, h6⟩
theorem InfoV.up {M H L : Nat → Prop} {w w' : World} {v : Value} {x : InfM} (h : InfoV w M H L v x) (g : Up w w') : InfoV w' M H L v x := h.keep g fun _ _ h => h
theorem InfoV.mono {M H L M' H' L' : Nat → Prop} {w : World} {v : Value} {x : InfM} (h : InfoV w M H L v x) (hm : ∀ b, b < w.heap.size → M b → M' b) (hr : ∀ b, b < w.heap.size → H b → H' b) (hl : ∀ b, b < w.heap.size → L b → L' b) : InfoV w M' H' L' v x := let ⟨A, c, he, h0, h1, h2, h3, h4, h5, h6⟩ := h; ⟨A, c, he, h0.mono hm hr hl, h1, h2, h3, h4, h5, h6⟩
theorem InfoE.val {M H L : Nat → Prop} {w : World} {vs : List Value} {x : InfM} (h : InfoE M H L w vs x) : ∃ A c, vs = [.int .i64 x.kd, .int .i64 x.car, .int .i64 x.bed, .int .i64 x.at_, .int .i64 x.dir, .slice A x.ps.length c] ∧ InfoV w M H L (.agg #[.int .i64 x.kd, .int .i64 x.car, .int .i64 x.bed, .int .i64 x.at_, .int .i64 x.dir, .slice A x.ps.length c]) x :=
  let ⟨A, c, he, h0, h1, h2, h3, h4, h5, h6⟩ := h; ⟨A, c, he, A, c, rfl, h0, h1, h2, h3, h4, h5, h6⟩
theorem InfoV.val {M H L : Nat → Prop} {w : World} {v : Value} {x : InfM} (h : InfoV w M H L v x) : ∃ A c, v = .agg #[.int .i64 x.kd, .int .i64 x.car, .int .i64 x.bed, .int .i64 x.at_, .int .i64 x.dir, .slice A x.ps.length c] ∧ InfoV w M H L (.agg #[.int .i64 x.kd, .int .i64 x.car, .int .i64 x.bed, .int .i64 x.at_, .int .i64 x.dir, .slice A x.ps.length c]) x := by
  obtain ⟨A, c, rfl, h0, h1, h2, h3, h4, h5, h6⟩ := h
  exact ⟨_, _, rfl, _, _, rfl, h0, h1, h2, h3, h4, h5, h6⟩
theorem InfoV.parts {M H L : Nat → Prop} {w : World} {v : Value} {x : InfM} (h : InfoV w M H L v x) : ∃ A c, v = .agg #[.int .i64 x.kd, .int .i64 x.car, .int .i64 x.bed, .int .i64 x.at_, .int .i64 x.dir, .slice A x.ps.length c] ∧ IntsL w M H L (.slice A x.ps.length c) x.ps ∧ (x.ps.length ≤ c ∧ c ≤ 9223372036854775807) ∧ I64 x.kd ∧ I64 x.car ∧ I64 x.bed ∧ I64 x.at_ ∧ I64 x.dir := h
theorem InfoE.mk {M H L : Nat → Prop} {w : World} {x : InfM} {B : Option Addr} {d : Nat} (h : InfoV w M H L (.agg #[.int .i64 x.kd, .int .i64 x.car, .int .i64 x.bed, .int .i64 x.at_, .int .i64 x.dir, .slice B x.ps.length d]) x) : InfoE M H L w [.int .i64 x.kd, .int .i64 x.car, .int .i64 x.bed, .int .i64 x.at_, .int .i64 x.dir, .slice B x.ps.length d] x := by
  obtain ⟨A, c, he, h0, h1, h2, h3, h4, h5, h6⟩ := h
  simp only [Value.agg.injEq, Array.mk.injEq, List.cons.injEq, Value.slice.injEq, true_and, and_true] at he
  obtain ⟨rfl, rfl⟩ := he
  exact ⟨_, _, rfl, h0, h1, h2, h3, h4, h5, h6⟩
def InfoSV (w : World) (M H L : Nat → Prop) (v : Value) (xs : List InfM) : Prop := Nst 6 (InfoE M H L) w M v xs
theorem InfoSV.keep {M H L T : Nat → Prop} {w w' : World} {v : Value} {xs : List InfM} (h : InfoSV w M H L v xs) (g : Chg T w w') (hd : ∀ b, M b ∨ H b ∨ L b → ¬ T b) : InfoSV w' M H L v xs :=
  Nst.keep h (fun _ _ k => InfoE.keep k g hd) g (fun b _ h => hd b (.inl h))
theorem InfoSV.up {M H L : Nat → Prop} {w w' : World} {v : Value} {xs : List InfM} (h : InfoSV w M H L v xs) (g : Up w w') : InfoSV w' M H L v xs := h.keep g fun _ _ h => h
theorem InfoSV.mono {M H L M' H' L' : Nat → Prop} {w : World} {v : Value} {xs : List InfM} (h : InfoSV w M H L v xs) (hm : ∀ b, b < w.heap.size → M b → M' b) (hr : ∀ b, b < w.heap.size → H b → H' b) (hl : ∀ b, b < w.heap.size → L b → L' b) : InfoSV w M' H' L' v xs :=
  Nst.mono h (fun _ _ k => InfoE.mono k hm hr hl) hm
theorem InfoSV.shape {M H L : Nat → Prop} {w : World} {v : Value} {xs : List InfM} (h : InfoSV w M H L v xs) : ∃ A c, v = .slice A xs.length c ∧ xs.length ≤ c ∧ c ≤ 9223372036854775807 ∧ (A = none → c = 0) := Nst.shape h
theorem InfoSV.at_ {M H L : Nat → Prop} {w : World} {v : Value} {xs : List InfM} (h : InfoSV w M H L v xs) {i : Nat} (hi : i < xs.length) : ∃ b o c vs, v = .slice (some ⟨b, o, none⟩) xs.length c ∧ M b ∧ b < w.heap.size ∧ vs.length = 6 ∧ InfoE M H L w vs xs[i] ∧
    ∀ j u, vs[j]? = some u → w.cell? ⟨b, o + i * 6 + j, none⟩ = some u ∧ w.frozen? ⟨b, o + i * 6 + j, none⟩ = false := Nst.at_ h hi
end Go.Proofs.Ytplabnjdhkmmkaa
end
section
set_option linter.unusedSimpArgs false
set_option linter.unusedVariables false
namespace Go.Proofs.Ytplabnjdhkmmkaa
open Go.ChangeShapes Go.WideShapes Go.ChangeAt Go.RowKit
structure CarM where
  isin : Bool
  pos : Int
def CarM.cells (x : CarM) : List Value := [.bool x.isin, .int .i64 x.pos]
def CarM.ok (x : CarM) : Prop := I64 x.pos
theorem CarM.cells_length (x : CarM) : x.cells.length = 2 := rfl
abbrev CarM.val (x : CarM) : Value := .agg #[.bool x.isin, .int .i64 x.pos]
/-- a slice that reads as the list xs -/
def Cars (w : World) (S : Nat → Prop) (v : Value) (xs : List CarM) : Prop := Raw w S 2 v xs.length (xs.flatMap CarM.cells) ∧ ∀ x ∈ xs, x.ok
section
variable {S T : Nat → Prop} {w w' : World} {v : Value} {xs : List CarM}
theorem Cars.keep (h : Cars w S v xs) (g : Chg T w w') (hd : ∀ b, b < w.heap.size → S b → ¬ T b) : Cars w' S v xs := ⟨h.1.keep g hd, h.2⟩
theorem Cars.up (h : Cars w S v xs) (g : Up w w') : Cars w' S v xs := ⟨h.1.up g, h.2⟩
theorem Cars.mono (h : Cars w S v xs) (hs : ∀ b, b < w.heap.size → S b → T b) : Cars w T v xs := ⟨h.1.mono hs, h.2⟩
theorem Cars.shape (h : Cars w S v xs) : ∃ A c, v = .slice A xs.length c ∧ xs.length ≤ c ∧ c ≤ 9223372036854775807 ∧ (A = none → c = 0) := h.1.shape
theorem Cars.nil (w : World) (S : Nat → Prop) (c : Nat) (A : Option Addr) (hc : c ≤ 9223372036854775807) (hA : A = none → c = 0 := by simp) : Cars w S (.slice A 0 c) [] := ⟨Raw.nil w S 2 c A hc hA, by simp⟩
theorem Cars.at_ (h : Cars w S v xs) {i : Nat} (hi : i < xs.length) : ∃ b o c, v = .slice (some ⟨b, o, none⟩) xs.length c ∧ S b ∧ b < w.heap.size ∧
    ∀ j u, (xs[i].cells)[j]? = some u → w.cell? ⟨b, o + i * 2 + j, none⟩ = some u ∧ w.frozen? ⟨b, o + i * 2 + j, none⟩ = false := Raw.at_ CarM.cells_length h.1 hi
end
end Go.Proofs.Ytplabnjdhkmmkaa
end
section
set_option linter.unusedSimpArgs false
set_option linter.unusedVariables false
namespace Go.Proofs.Ytplabnjdhkmmkaa
open Go.ChangeShapes Go.WideShapes Go.ChangeAt Go.RowKit
end Go.Proofs.Ytplabnjdhkmmkaa
end
section
set_option maxRecDepth 100000
set_option maxHeartbeats 1000000
set_option linter.unusedSimpArgs false
set_option linter.unusedVariables false
namespace Go.Proofs.Ytplabnjdhkmmkaa
open Go.ChangeShapes Go.WideShapes Go.ChangeAt Go.RowKit
def CarsL (w : World) (M H L : Nat → Prop) (v : Value) (xs : List CarM) : Prop := Cars w L v xs
theorem CarsL.keep {M H L T : Nat → Prop} {w w' : World} {v : Value} {xs : List CarM} (h : CarsL w M H L v xs) (g : Chg T w w') (hd : ∀ b, M b ∨ H b ∨ L b → ¬ T b) : CarsL w' M H L v xs := Cars.keep h g (fun b _ hb => hd b (.inr (.inr hb)))
theorem CarsL.up {M H L : Nat → Prop} {w w' : World} {v : Value} {xs : List CarM} (h : CarsL w M H L v xs) (g : Up w w') : CarsL w' M H L v xs := Cars.up h g
theorem CarsL.mono {M H L M' H' L' : Nat → Prop} {w : World} {v : Value} {xs : List CarM} (h : CarsL w M H L v xs) (hm : ∀ b, b < w.heap.size → M b → M' b) (hr : ∀ b, b < w.heap.size → H b → H' b) (hl : ∀ b, b < w.heap.size → L b → L' b) : CarsL w M' H' L' v xs := Cars.mono h hl
theorem CarsL.shape {M H L : Nat → Prop} {w : World} {v : Value} {xs : List CarM} (h : CarsL w M H L v xs) : ∃ A c, v = .slice A xs.length c ∧ xs.length ≤ c ∧ c ≤ 9223372036854775807 ∧ (A = none → c = 0) := Cars.shape h
end Go.Proofs.Ytplabnjdhkmmkaa
end
section
set_option maxRecDepth 100000
set_option maxHeartbeats 1000000
set_option linter.unusedSimpArgs false
set_option linter.unusedVariables false
namespace Go.Proofs.Ytplabnjdhkmmkaa
open Go.ChangeShapes Go.WideShapes Go.ChangeAt Go.RowKit
structure MacM where
  wd : Int
  rk : Int
  fr : List (List Int)
  bk : List (List Int)
  cs : List CarM
  ls : List InfM
  dr : List Int
def MacE (M H L : Nat → Prop) (w : World) (vs : List Value) (x : MacM) : Prop := ∃ A0 c0 A1 c1 A2 c2 A3 c3 A4 c4, vs = [.int .i64 x.wd, .int .i64 x.rk, .slice A0 x.fr.length c0, .slice A1 x.bk.length c1, .slice A2 x.cs.length c2, .slice A3 x.ls.length c3, .slice A4 x.dr.length c4] ∧ IntSSV w M H L (.slice A0 x.fr.length c0) x.fr ∧ IntSSV w M H L (.slice A1 x.bk.length c1) x.bk ∧ CarsL w M H L (.slice A2 x.cs.length c2) x.cs ∧ InfoSV w M H L (.slice A3 x.ls.length c3) x.ls ∧ IntsL w M H L (.slice A4 x.dr.length c4) x.dr ∧ (x.fr.length ≤ c0 ∧ c0 ≤ 9223372036854775807) ∧ (x.bk.length ≤ c1 ∧ c1 ≤ 9223372036854775807) ∧ (x.cs.length ≤ c2 ∧ c2 ≤ 9223372036854775807) ∧ (x.ls.length ≤ c3 ∧ c3 ≤ 9223372036854775807) ∧ (x.dr.length ≤ c4 ∧ c4 ≤ 9223372036854775807) ∧ I64 x.wd ∧ I64 x.rk
theorem MacE.keep {M H L T : Nat → Prop} {w w' : World} {vs : List Value} {x : MacM} (h : MacE M H L w vs x) (g : Chg T w w') (hd : ∀ b, M b ∨ H b ∨ L b → ¬ T b) : MacE M H L w' vs x := let ⟨A0, c0, A1, c1, A2, c2, A3, c3, A4, c4, he, h0, h1, h2, h3, h4, h5, h6, h7, h8, h9, h10, h11⟩ := h; ⟨A0, c0, A1, c1, A2, c2, A3, c3, A4, c4, he, h0.keep g hd, h1.keep g hd, h2.keep g hd, h3.keep g hd, h4.keep g hd, h5, h6, h7, h8, h9, h10, h11⟩
theorem MacE.up {M H L : Nat → Prop} {w w' : World} {vs : List Value} {x : MacM} (h : MacE M H L w vs x) (g : Up w w') : MacE M H L w' vs x := h.keep g fun _ _ h => h
theorem MacE.mono {M H L M' H' L' : Nat → Prop} {w : World} {vs : List Value} {x : MacM} (h : MacE M H L w vs x) (hm : ∀ b, b < w.heap.size → M b → M' b) (hr : ∀ b, b < w.heap.size → H b → H' b) (hl : ∀ b, b < w.heap.size → L b → L' b) : MacE M' H' L' w vs x := let ⟨A0, c0, A1, c1, A2, c2, A3, c3, A4, c4, he, h0, h1, h2, h3, h4, h5, h6, h7, h8, h9, h10, h11⟩ := h; ⟨A0, c0, A1, c1, A2, c2, A3, c3, A4, c4, he, h0.mono hm hr hl, h1.mono hm hr hl, h2.mono hm hr hl, h3.mono hm hr hl, h4.mono hm hr hl, h5, h6, h7, h8, h9, h10, h11⟩
def MacV (w : World) (M H L : Nat → Prop) (v : Value) (x : MacM) : Prop := ∃ A0 c0 A1 c1 A2 c2 A3 c3 A4 c4, v = .agg #[.int .i64 x.wd, .int .i64 x.rk, .slice A0 x.fr.length c0, .slice A1 x.bk.length c1, .slice A2 x.cs.length c2, .slice A3 x.ls.length c3, .slice A4 x.dr.length c4] ∧ IntSSV w M H L (.slice A0 x.fr.length c0) x.fr ∧ IntSSV w M H L (.slice A1 x.bk.length c1) x.bk ∧ CarsL w M H L (.slice A2 x.cs.length c2) x.cs ∧ InfoSV w M H L (.slice A3 x.ls.length c3) x.ls ∧ IntsL w M H L (.slice A4 x.dr.length c4) x.dr ∧ (x.fr.length ≤ c0 ∧ c0 ≤ 9223372036854775807) ∧ (x.bk.length ≤ c1 ∧ c1 ≤ 9223372036854775807) ∧ (x.cs.length ≤ c2 ∧ c2 ≤ 9223372036854775807) ∧ (x.ls.length ≤ c3 ∧ c3 ≤ 9223372036854775807) ∧ (x.dr.length ≤ c4 ∧ c4 ≤ 9223372036854775807) ∧ I64 x.wd ∧ I64 x.rk
theorem MacV.keep {M H L T : Nat → Prop} {w w' : World} {v : Value} {x : MacM} (h : MacV w M H L v x) (g : Chg T w w') (hd : ∀ b, M b ∨ H b ∨ L b → ¬ T b) : MacV w' M H L v x := let ⟨A0, c0, A1, c1, A2, c2, A3, c3, A4, c4, he, h0, h1, h2, h3, h4, h5, h6, h7, h8, h9, h10, h11⟩ := h; ⟨A0, c0, A1, c1, A2, c2, A3, c3, A4, c4, he, h0.keep g hd, h1.keep g hd, h2.keep g hd, h3.keep g hd, h4.keep g hd, h5, h6, h7, h8, h9, h10, h11⟩
theorem MacV.up {M H L : Nat → Prop} {w w' : World} {v : Value} {x : MacM} (h : MacV w M H L v x) (g : Up w w') : MacV w' M H L v x := h.keep g fun _ _ h => h
theorem MacV.mono {M H L M' H' L' : Nat → Prop} {w : World} {v : Value} {x : MacM} (h : MacV w M H L v x) (hm : ∀ b, b < w.heap.size → M b → M' b) (hr : ∀ b, b < w.heap.size → H b → H' b) (hl : ∀ b, b < w.heap.size → L b → L' b) : MacV w M' H' L' v x := let ⟨A0, c0, A1, c1, A2, c2, A3, c3, A4, c4, he, h0, h1, h2, h3, h4, h5, h6, h7, h8, h9, h10, h11⟩ := h; ⟨A0, c0, A1, c1, A2, c2, A3, c3, A4, c4, he, h0.mono hm hr hl, h1.mono hm hr hl, h2.mono hm hr hl, h3.mono hm hr hl, h4.mono hm hr hl, h5, h6, h7, h8, h9, h10, h11⟩
theorem MacE.val {M H L : Nat → Prop} {w : World} {vs : List Value} {x : MacM} (h : MacE M H L w vs x) : ∃ A0 c0 A1 c1 A2 c2 A3 c3 A4 c4, vs = [.int .i64 x.wd, .int .i64 x.rk, .slice A0 x.fr.length c0, .slice A1 x.bk.length c1, .slice A2 x.cs.length c2, .slice A3 x.ls.length c3, .slice A4 x.dr.length c4] ∧ MacV w M H L (.agg #[.int .i64 x.wd, .int .i64 x.rk, .slice A0 x.fr.length c0, .slice A1 x.bk.length c1, .slice A2 x.cs.length c2, .slice A3 x.ls.length c3, .slice A4 x.dr.length c4]) x :=
  let ⟨A0, c0, A1, c1, A2, c2, A3, c3, A4, c4, he, h0, h1, h2, h3, h4, h5, h6, h7, h8, h9, h10, h11⟩ := h; ⟨A0, c0, A1, c1, A2, c2, A3, c3, A4, c4, he, A0, c0, A1, c1, A2, c2, A3, c3, A4, c4, rfl, h0, h1, h2, h3, h4, h5, h6, h7, h8, h9, h10, h11⟩
theorem MacV.val {M H L : Nat → Prop} {w : World} {v : Value} {x : MacM} (h : MacV w M H L v x) : ∃ A0 c0 A1 c1 A2 c2 A3 c3 A4 c4, v = .agg #[.int .i64 x.wd, .int .i64 x.rk, .slice A0 x.fr.length c0, .slice A1 x.bk.length c1, .slice A2 x.cs.length c2, .slice A3 x.ls.length c3, .slice A4 x.dr.length c4] ∧ MacV w M H L (.agg #[.int .i64 x.wd, .int .i64 x.rk, .slice A0 x.fr.length c0, .slice A1 x.bk.length c1, .slice A2 x.cs.length c2, .slice A3 x.ls.length c3, .slice A4 x.dr.length c4]) x := by
  obtain ⟨A0, c0, A1, c1, A2, c2, A3, c3, A4, c4, rfl, h0, h1, h2, h3, h4, h5, h6, h7, h8, h9, h10, h11⟩ := h
  exact ⟨_, _, _, _, _, _, _, _, _, _, rfl, _, _, _, _, _, _, _, _, _, _, rfl, h0, h1, h2, h3, h4, h5, h6, h7, h8, h9, h10, h11⟩
theorem MacV.parts {M H L : Nat → Prop} {w : World} {v : Value} {x : MacM} (h : MacV w M H L v x) : ∃ A0 c0 A1 c1 A2 c2 A3 c3 A4 c4, v = .agg #[.int .i64 x.wd, .int .i64 x.rk, .slice A0 x.fr.length c0, .slice A1 x.bk.length c1, .slice A2 x.cs.length c2, .slice A3 x.ls.length c3, .slice A4 x.dr.length c4] ∧ IntSSV w M H L (.slice A0 x.fr.length c0) x.fr ∧ IntSSV w M H L (.slice A1 x.bk.length c1) x.bk ∧ CarsL w M H L (.slice A2 x.cs.length c2) x.cs ∧ InfoSV w M H L (.slice A3 x.ls.length c3) x.ls ∧ IntsL w M H L (.slice A4 x.dr.length c4) x.dr ∧ (x.fr.length ≤ c0 ∧ c0 ≤ 9223372036854775807) ∧ (x.bk.length ≤ c1 ∧ c1 ≤ 9223372036854775807) ∧ (x.cs.length ≤ c2 ∧ c2 ≤ 9223372036854775807) ∧ (x.ls.length ≤ c3 ∧ c3 ≤ 9223372036854775807) ∧ (x.dr.length ≤ c4 ∧ c4 ≤ 9223372036854775807) ∧ I64 x.wd ∧ I64 x.rk := h
theorem MacE.mk {M H L : Nat → Prop} {w : World} {x : MacM} {B0 B1 B2 B3 B4 : Option Addr} {d0 d1 d2 d3 d4 : Nat} (h : MacV w M H L (.agg #[.int .i64 x.wd, .int .i64 x.rk, .slice B0 x.fr.length d0, .slice B1 x.bk.length d1, .slice B2 x.cs.length d2, .slice B3 x.ls.length d3, .slice B4 x.dr.length d4]) x) : MacE M H L w [.int .i64 x.wd, .int .i64 x.rk, .slice B0 x.fr.length d0, .slice B1 x.bk.length d1, .slice B2 x.cs.length d2, .slice B3 x.ls.length d3, .slice B4 x.dr.length d4] x := by
  obtain ⟨A0, c0, A1, c1, A2, c2, A3, c3, A4, c4, he, h0, h1, h2, h3, h4, h5, h6, h7, h8, h9, h10, h11⟩ := h
  simp only [Value.agg.injEq, Array.mk.injEq, List.cons.injEq, Value.slice.injEq, true_and, and_true] at he
  obtain ⟨⟨rfl, rfl⟩, ⟨rfl, rfl⟩, ⟨rfl, rfl⟩, ⟨rfl, rfl⟩, ⟨rfl, rfl⟩⟩ := he
  exact ⟨_, _, _, _, _, _, _, _, _, _, rfl, h0, h1, h2, h3, h4, h5, h6, h7, h8, h9, h10, h11⟩
end Go.Proofs.Ytplabnjdhkmmkaa
end
section
set_option linter.unusedSimpArgs false
set_option linter.unusedVariables false
namespace Go.Proofs.Ytplabnjdhkmmkaa
open Go.ChangeShapes Go.WideShapes Go.ChangeAt Go.RowKit
/-- rising numbers -/
def riseB (xs : List Int) : Bool := decide (xs.Pairwise (· < ·))
def upw (xs : List Int) (j : Nat) : Prop := ∀ i (hi : i < xs.length), 0 < i → i < j → xs[i-1]'(by omega) < xs[i]
theorem upw.start (xs : List Int) : upw xs 0 := fun _ _ _ h => absurd h (Nat.not_lt_zero _)
theorem upw.next {xs : List Int} {j : Nat} (h : upw xs j) (hj : j < xs.length) (hx : 0 < j → xs[j-1]'(by omega) < xs[j]) : upw xs (j + 1) := fun i hi h0 hij => by
  by_cases e : i = j
  · subst e; exact hx h0
  · exact h i hi h0 (by omega)
theorem upw.all {xs : List Int} (h : upw xs xs.length) : riseB xs = true := by
  refine decide_eq_true ?_
  rw [List.pairwise_iff_getElem]
  have step : ∀ d i (hi : i + d + 1 < xs.length), xs[i]'(by omega) < xs[i + d + 1] := by
    intro d
    induction d with
    | zero => intro i hi; exact h (i + 1) hi (by omega) hi
    | succ d ih =>
      intro i hi
      have h1 := ih i (by omega)
      have h2 := h (i + (d + 1) + 1) hi (by omega) hi
      have e : i + (d + 1) + 1 - 1 = i + d + 1 := by omega
      simp only [e] at h2
      omega
  intro i j hi hj hij
  have := step (j - i - 1) i (by omega)
  have e : i + (j - i - 1) + 1 = j := by omega
  simpa only [e] using this
def allB (f : Nat → Bool) (n : Nat) : Bool := (List.range n).all f
def AllTo (f : Nat → Bool) (j : Nat) : Prop := ∀ i, i < j → f i = true
theorem AllTo.start (f : Nat → Bool) : AllTo f 0 := fun _ h => absurd h (Nat.not_lt_zero _)
theorem AllTo.next {f : Nat → Bool} {j : Nat} (h : AllTo f j) (hj : f j = true) : AllTo f (j + 1) := fun i hi => by
  by_cases e : i = j
  · subst e; exact hj
  · exact h i (by omega)
theorem AllTo.all {f : Nat → Bool} {n : Nat} (h : AllTo f n) : allB f n = true := by
  unfold allB
  rw [List.all_eq_true]
  exact fun i hi => h i (List.mem_range.1 hi)
theorem getD_eq {α : Type} {xs : List α} {i : Nat} {d : α} (h : i < xs.length) : xs.getD i d = xs[i] := by simp [h]
end Go.Proofs.Ytplabnjdhkmmkaa
end
section
set_option linter.unusedSimpArgs false
set_option linter.unusedVariables false
namespace Go.Proofs.Ytplabnjdhkmmkaa
open Go.ChangeShapes Go.WideShapes Go.ChangeAt Go.RowKit
/-- the letters of round t, the first m of them -/
def swapRow (p s : Int) (a t m : Nat) : List Int := (List.range m).map fun i : Nat => s * (p + t + ((a : Int) - 1 - i) + 1)
/-- the letters of b rounds -/
def swapTo (p s : Int) (a : Nat) : Nat → List Int
  | 0 => []
  | t + 1 => swapTo p s a t ++ swapRow p s a t a
theorem swapRow_length (p s : Int) (a t m : Nat) : (swapRow p s a t m).length = m := by simp [swapRow]
theorem swapRow_succ (p s : Int) (a t m : Nat) : swapRow p s a t (m + 1) = swapRow p s a t m ++ [s * (p + t + ((a : Int) - 1 - m) + 1)] := by simp [swapRow, List.range_succ]
theorem swapTo_length (p s : Int) (a : Nat) : ∀ t, (swapTo p s a t).length = t * a
  | 0 => by simp [swapTo]
  | t + 1 => by simp [swapTo, swapTo_length p s a t, swapRow_length, Nat.add_mul]
end Go.Proofs.Ytplabnjdhkmmkaa
end
section
set_option linter.unusedSimpArgs false
set_option linter.unusedVariables false
namespace Go.Proofs.Ytplabnjdhkmmkaa
open Go.ChangeShapes Go.WideShapes Go.ChangeAt Go.RowKit
def evX (s l : Int) : EvM := ⟨1, l - 1, s, 0, 0, 0⟩
/-- the crossings of two blocks of strands -/
def crossE (p s : Int) (a b : Nat) : List EvM := (swapTo p 1 a b).map (evX s)
theorem crossE_length (p s : Int) (a b : Nat) : (crossE p s a b).length = b * a := by simp [crossE, swapTo_length]
/-- how many loops the first lists hold -/
def preL (xss : List (List Int)) (i : Nat) : Nat := ((xss.take i).map List.length).sum
theorem preL_zero (xss : List (List Int)) : preL xss 0 = 0 := by simp [preL]
theorem preL_succ {xss : List (List Int)} {i : Nat} (h : i < xss.length) : preL xss (i + 1) = preL xss i + xss[i].length := by
  unfold preL
  rw [List.take_succ_eq_append_getElem h, List.map_append, List.sum_append]
  simp
theorem preL_over {xss : List (List Int)} {i : Nat} (h : xss.length ≤ i) : preL xss i = preL xss xss.length := by
  unfold preL
  rw [List.take_of_length_le h, List.take_length]
theorem preL_le {xss : List (List Int)} (h : ∀ i (hi : i < xss.length), xss[i].length ≤ 4) : ∀ i, preL xss i ≤ 4 * xss.length := by
  have key : ∀ i, i ≤ xss.length → preL xss i ≤ 4 * i := by
    intro i
    induction i with
    | zero => intro _; simp [preL]
    | succ i ih =>
      intro hi
      have := ih (by omega)
      have := h i hi
      rw [preL_succ hi]
      omega
  intro i
  by_cases c : i ≤ xss.length
  · have := key i c
    omega
  · rw [preL_over (by omega)]
    exact key _ (Nat.le_refl _)
def lenF (p : MacM) (i : Nat) : Nat := (p.fr.getD i []).length
def lenB (p : MacM) (i : Nat) : Nat := (p.bk.getD i []).length
/-- the loops ahead of a needle on a place: those of the first i front needles and of the first k back needles -/
def befM (p : MacM) (i k : Int) : Int := (preL p.fr i.toNat : Int) + preL p.bk k.toNat
/-- the back needle that faces front needle i in a step of the rack -/
def facK (r by_ : Int) (i : Nat) : Int := if 0 < by_ then i - r - 1 else i - r
/-- the events of one step of the rack at front needle i -/
def rackE (p : MacM) (r by_ : Int) (i : Nat) : List EvM :=
  if 0 ≤ facK r by_ i ∧ facK r by_ i < p.bk.length then
    if 0 < by_ then crossE (befM p i (facK r by_ i)) (-1) (lenB p (facK r by_ i).toNat) (lenF p i) else crossE (befM p i (facK r by_ i)) 1 (lenF p i) (lenB p (facK r by_ i).toNat)
  else []
def rackTo (p : MacM) (r by_ : Int) : Nat → List EvM
  | 0 => []
  | i + 1 => rackTo p r by_ i ++ rackE p r by_ i
/-- the events of one step of the rack -/
def oneRack (p : MacM) (r by_ : Int) : List EvM := rackTo p r by_ p.fr.length
/-- the events of n steps -/
def racksTo (p : MacM) (r by_ : Int) : Nat → List EvM
  | 0 => []
  | n + 1 => racksTo p r by_ n ++ oneRack p (r + by_ * n) by_
def rackAllM (p : MacM) (t : Int) : List EvM := if p.rk ≤ t then racksTo p p.rk 1 (t - p.rk).toNat else racksTo p p.rk (-1) (p.rk - t).toNat
theorem rackE_no {p : MacM} {r by_ : Int} {i : Nat} (h : ¬ (0 ≤ facK r by_ i ∧ facK r by_ i < p.bk.length)) : rackE p r by_ i = [] := by unfold rackE; rw [if_neg h]
theorem rackE_up {p : MacM} {r by_ : Int} {i : Nat} (h : 0 ≤ facK r by_ i ∧ facK r by_ i < p.bk.length) (hb : 0 < by_) : rackE p r by_ i = crossE (befM p i (facK r by_ i)) (-1) (lenB p (facK r by_ i).toNat) (lenF p i) := by unfold rackE; rw [if_pos h, if_pos hb]
theorem rackE_down {p : MacM} {r by_ : Int} {i : Nat} (h : 0 ≤ facK r by_ i ∧ facK r by_ i < p.bk.length) (hb : ¬ 0 < by_) : rackE p r by_ i = crossE (befM p i (facK r by_ i)) 1 (lenF p i) (lenB p (facK r by_ i).toNat) := by unfold rackE; rw [if_pos h, if_neg hb]
/-- a machine whose lists are short -/
structure FewM (p : MacM) : Prop where
  n1 : p.fr.length ≤ 24
  n2 : p.bk.length = p.fr.length
  wd : p.wd = p.fr.length
  f : ∀ i (hi : i < p.fr.length), p.fr[i].length ≤ 4
  b : ∀ i (hi : i < p.bk.length), p.bk[i].length ≤ 4
theorem FewM.lenF {p : MacM} (h : FewM p) (i : Nat) : lenF p i ≤ 4 := by
  unfold Go.Proofs.Ytplabnjdhkmmkaa.lenF
  by_cases c : i < p.fr.length
  · rw [getD_eq c]; exact h.f i c
  · simp [List.getElem?_eq_none (by omega : p.fr.length ≤ i)]
theorem FewM.lenB {p : MacM} (h : FewM p) (i : Nat) : lenB p i ≤ 4 := by
  unfold Go.Proofs.Ytplabnjdhkmmkaa.lenB
  by_cases c : i < p.bk.length
  · rw [getD_eq c]; exact h.b i c
  · simp [List.getElem?_eq_none (by omega : p.bk.length ≤ i)]
theorem FewM.bef {p : MacM} (h : FewM p) (i k : Int) : 0 ≤ befM p i k ∧ befM p i k ≤ 192 := by
  unfold befM
  have h1 := preL_le h.f i.toNat
  have h2 := preL_le h.b k.toNat
  have := h.n1
  have := h.n2
  omega
theorem rackE_length {p : MacM} (h : FewM p) (r by_ : Int) (i : Nat) : (rackE p r by_ i).length ≤ 16 := by
  unfold rackE
  have h1 := h.lenF i
  have h2 := h.lenB (facK r by_ i).toNat
  split
  · split
    · rw [crossE_length]; exact Nat.mul_le_mul h1 h2
    · rw [crossE_length]; exact Nat.mul_le_mul h2 h1
  · simp
theorem rackTo_length {p : MacM} (h : FewM p) (r by_ : Int) : ∀ i, (rackTo p r by_ i).length ≤ 16 * i
  | 0 => by simp [rackTo]
  | i + 1 => by
    rw [rackTo, List.length_append]
    have := rackTo_length h r by_ i
    have := rackE_length h r by_ i
    omega
theorem oneRack_length {p : MacM} (h : FewM p) (r by_ : Int) : (oneRack p r by_).length ≤ 384 := by
  have := rackTo_length h r by_ p.fr.length
  have := h.n1
  unfold oneRack
  omega
theorem racksTo_length {p : MacM} (h : FewM p) (r by_ : Int) : ∀ n, (racksTo p r by_ n).length ≤ 384 * n
  | 0 => by simp [racksTo]
  | n + 1 => by
    rw [racksTo, List.length_append]
    have := racksTo_length h r by_ n
    have := oneRack_length h (r + by_ * n) by_
    omega
end Go.Proofs.Ytplabnjdhkmmkaa
end
section
set_option linter.unusedSimpArgs false
set_option linter.unusedVariables false
set_option maxRecDepth 100000
set_option maxHeartbeats 4000000
namespace Go.Proofs.Ytplabnjdhkmmkaa
open Go.ChangeShapes Go.WideShapes Go.ChangeAt Go.RowKit
def MoveM.near (m : MoveM) : Prop := (0 ≤ m.fr ∧ m.fr ≤ 23) ∧ (0 ≤ m.to ∧ m.to ≤ 23)
theorem stepsF_near : ∀ (n : Nat) (f t : Int), (0 ≤ f ∧ f ≤ 23) → (0 ≤ t ∧ t ≤ 23) → ∀ m ∈ stepsF n f t, m.near
  | 0, _, _, _, _ => by simp [stepsF]
  | n + 1, f, t, hf, ht => by
    intro m hm
    unfold stepsF at hm
    split at hm
    · simp at hm
    · rcases List.mem_cons.1 hm with rfl | hm
      · exact ⟨hf, nextOf_in hf ht⟩
      · exact stepsF_near n _ t (nextOf_in hf ht) ht m hm
theorem planM_near {xs ys : List Int} (h : PlanOk xs ys) : ∀ m ∈ planM xs ys, m.near := by
  obtain ⟨h1, _, h3, h4⟩ := h
  have hs : ∀ i, i < xs.length → ∀ m ∈ stepsM (ix xs i) (ix ys i), m.near := fun i hi m hm => stepsF_near 24 _ _ (h3 i hi) (h4 i hi) m hm
  intro m hm
  rcases List.mem_append.1 hm with hm | hm
  · obtain ⟨r, hr, hm⟩ := List.mem_flatMap.1 hm
    have hr := List.mem_range.1 hr
    unfold upAt at hm
    split at hm
    · exact hs _ (by omega) m hm
    · simp at hm
  · obtain ⟨r, hr, hm⟩ := List.mem_flatMap.1 hm
    have hr := List.mem_range.1 hr
    unfold downAt at hm
    split at hm
    · exact hs _ (by omega) m hm
    · simp at hm
def colsM (ms : List MoveM) : List OpM := ms.flatMap fun m => rackM m.fr m.to
theorem colsM_snoc (ms : List MoveM) (m : MoveM) : colsM (ms ++ [m]) = colsM ms ++ rackM m.fr m.to := by simp [colsM]
theorem colsM_len (ms : List MoveM) : (colsM ms).length = 4 * ms.length := by
  induction ms with
  | nil => rfl
  | cons m ms ih => simp only [colsM, List.flatMap_cons, List.length_append, List.length_cons] at *; rw [ih]; simp [rackM]; omega
theorem colsM_take {ms : List MoveM} {j : Nat} (h : j < ms.length) : colsM (ms.take (j + 1)) = colsM (ms.take j) ++ rackM ms[j].fr ms[j].to := by
  rw [List.take_succ_eq_append_getElem h, colsM_snoc]
def colsOut (xs ys : List Int) : List OpM := colsM (planOut xs ys)
theorem planCode_zero' {xs ys : List Int} (h : planCode xs ys = 0) : PlanOk xs ys := by
  unfold planCode at h
  split at h
  · rename_i hh; exact planOk_of hh.1 hh.2.1 hh.2.2
  · omega
theorem planOut_near (xs ys : List Int) : ∀ m ∈ planOut xs ys, m.near := by
  by_cases hz : planCode xs ys = 0
  · rw [planOut_ok hz]; exact planM_near (planCode_zero' hz)
  · rw [planOut_no rfl hz]; simp
theorem planOut_len (xs ys : List Int) : (planOut xs ys).length ≤ 384 := by
  by_cases hz : planCode xs ys = 0
  · rw [planOut_ok hz]; exact planM_len (planCode_zero' hz).2.1
  · rw [planOut_no rfl hz]; simp
theorem moveColumns_any (w : World) (S T : Nat → Prop) (v u : Value) (xs ys : List Int) (h : Ints w S v xs) (h2 : Ints w T u ys) :
    Calls Try.prog 30 #[v, u] w fun e w' => ∃ v', e = .returned (.tuple #[v', .int .i64 (planCode xs ys)]) ∧ Ops w' (New w.heap.size w'.heap.size) v' (colsOut xs ys) ∧ Up w w' := by
  obtain ⟨A, c, rfl, hlc, hcm, -⟩ := h.shape
  obtain ⟨A2, c2, rfl, hlc2, hcm2, -⟩ := h2.shape
  have H := Lib.hid h
  have H2 := Lib.hid h2
  clear h h2
  go_enter Try.func30, Try.ntmps30
  go_wp2_with fail
  refine (PlanMoves_any _ S T _ _ xs ys H.out H2.out).mono ?_
  rintro e w1 ⟨v1, rfl, k1, g1⟩
  obtain ⟨A3, c3, rfl, hlc3, hcm3, -⟩ := k1.shape
  have K1 := Lib.hid k1
  have G1 := Lib.hid g1
  have hz1 := g1.size
  clear k1 g1
  by_cases hz : planCode xs ys = 0
  rotate_left
  · have hb : (planCode xs ys != 0) = true := by simpa using hz
    have HE := Lib.hid (show colsOut xs ys = [] by unfold colsOut; rw [planOut_no rfl hz]; rfl)
    clear hz
    go_wp2
    go_ret2
    exact ⟨_, rfl, by rw [HE.out]; exact Ops.nil _ _ _ _ (by omega), G1.out⟩
  have hb : (planCode xs ys != 0) = false := by simpa using hz
  have HZ := Lib.hid hz
  have HN := Lib.hid (planOut_near xs ys)
  have hle := planOut_len xs ys
  clear hz
  generalize hms : planOut xs ys = ms at *
  have HMS := Lib.hid hms
  clear hms
  go_wp2
  go_loopw [8, 10, 23] (fun v _ i wr => ∃ j : Nat, j ≤ ms.length ∧ i = .int .i64 j ∧ Hid (OwnO wr w1.heap.size v (colsM (ms.take j))) ∧ Hid (Up w1 wr)) (fun _ _ i _ => ms.length - (intOf i).toNat)
  case atStart => exact ⟨0, by omega, rfl, OwnO.made w1 _ (Nat.le_refl _), (Chg.refl _ _).alloc _⟩
  case round =>
    obtain ⟨j, hj, rfl, ho, hg⟩ := hrel
    by_cases hlt : j < ms.length
    · obtain ⟨b, o, c', he, -, hbl, hc⟩ := (K1.out.up hg.out).at_ hlt
      obtain ⟨rfl, rfl⟩ : A3 = some ⟨b, o, none⟩ ∧ c3 = c' := by simpa using he
      have f0 := (hc 0 _ rfl).1
      have f1 := (hc 1 _ rfl).1
      rw [Nat.add_zero] at f0
      have hn := HN.out ms[j] (List.getElem_mem hlt)
      have hn1 : 0 ≤ ms[j].fr ∧ ms[j].fr ≤ 1000 := ⟨hn.1.1, by have := hn.1.2; omega⟩
      have hn2 : 0 ≤ ms[j].to ∧ ms[j].to ≤ 1000 := ⟨hn.2.1, by have := hn.2.2; omega⟩
      have HLL := Lib.hid (show (colsM (ms.take j)).length + (rackM ms[j].fr ms[j].to).length ≤ 1099511627776 by rw [colsM_len]; simp [rackM]; omega)
      have HT := Lib.hid (colsM_take hlt)
      clear hc he hn
      go_wp2_with fail
      refine (rackOps_any _ ms[j].fr ms[j].to hn1 hn2).mono ?_
      rintro e w2 ⟨v2, rfl, k2, g2⟩
      obtain ⟨A5, c5, rfl, hlc5, hcm5, -⟩ := k2.shape
      have HO1 := Lib.hid (OwnO.up (ho.out.alloc _) g2)
      have HG1 := Lib.hid (Chg.trans (hg.out.alloc _) g2)
      have HK1 := Lib.hid k2
      have hz2 := HG1.out.size
      clear ho hg k2 g2
      go_wp2_with (first | (at_builtin; refine wp_append_ops rfl _ _ rfl w1.heap.size _ (colsM (ms.take j)) rfl HO1.out _ _ (rackM ms[j].fr ms[j].to) rfl HK1.out HLL.out ?_ ?_; (first | omega | (simp; omega)); intro v' w3 ho1 _ hg1; have HO := Lib.hid ho1; have HG := Lib.hid (Chg.new HG1.out hg1 (fun i hi => by omega)); clear ho1 hg1 HO1 HG1 HK1))
      go_roundw
      case rel => exact ⟨j + 1, by omega, by go_num, by rw [HT.out]; exact HO.out, HG.out⟩
      case measure => first | (simp [intOf]; done) | (simp [intOf]; omega)
    · obtain rfl : j = ms.length := by omega
      go_wp2
      go_ret2
      exact ⟨_, ret_mi HZ.out.symm, by unfold colsOut; rw [HMS.out]; have := ho.out.ops; rw [List.take_length] at this; exact this.mono (fun b _ hb => ⟨Nat.le_trans hz1 hb.1, hb.2⟩), Chg.trans G1.out hg.out⟩
end Go.Proofs.Ytplabnjdhkmmkaa
end
section
set_option linter.unusedSimpArgs false
set_option linter.unusedVariables false
namespace Go.Proofs.Ytplabnjdhkmmkaa
open Go.ChangeShapes Go.WideShapes Go.ChangeAt Go.RowKit
/-- the machine as racking reads it -/
def macOf (m : MachM) : MacM := ⟨m.wd, m.rack, m.fr, m.bk, [], [], []⟩
theorem MInv.few {m : MachM} (h : MInv m) : FewM (macOf m) := by
  have h1 := h.wd; have h2 := h.fl; have h3 := h.bl
  exact ⟨show m.fr.length ≤ 24 by omega, show m.bk.length = m.fr.length by omega, h.fl.symm, fun i hi => (h.fs _ (List.getElem_mem hi)).1, fun i hi => (h.bs _ (List.getElem_mem hi)).1⟩
/-- the loops ahead of an operation's needle -/
def befO (m : MachM) (x : OpM) : Int := if x.fb = 2 then befM (macOf m) (x.fa + m.rack + 1) x.fa else befM (macOf m) x.fa (x.fa - m.rack)
/-- an operation's events -/
def evM (m : MachM) (x : OpM) : List EvM :=
  if x.kind = 7 then rackAllM (macOf m) x.rack
  else if x.kind = 1 then [⟨2, befO m x, (onM m x.fb x.fa).length, x.fb, x.car, x.dir⟩]
  else if x.kind = 2 then [⟨3, befO m x + (onM m x.fb x.fa).length, 0, x.fb, x.car, x.dir⟩]
  else if x.kind = 5 then [⟨5, if x.fb = 2 then befO m x + (onM m x.fb x.fa).length else befO m x, (onM m x.fb x.fa).length, x.fb, x.car, x.dir⟩]
  else if x.kind = 6 then [⟨4, befO m x, (onM m x.fb x.fa).length, 0, 0, 0⟩]
  else []
/-- all loops on needles -/
def liveN (m : MachM) : Nat := (m.fr.map List.length).sum + (m.bk.map List.length).sum
/-- the machine where the operations stop -/
def stopM : MachM → List OpM → MachM
  | m, [] => m
  | m, o :: os => if codeM m o = 0 then stopM (execM m o) os else m
/-- how many operations are carried out -/
def stopN : MachM → List OpM → Nat
  | _, [] => 0
  | m, o :: os => if codeM m o = 0 then stopN (execM m o) os + 1 else 0
/-- the events of operations -/
def evsM : MachM → List OpM → List EvM
  | _, [] => []
  | m, o :: os => evM m o ++ evsM (execM m o) os
/-- the code of a trace, where there were k events already -/
def trC : MachM → Nat → List OpM → Int
  | _, _, [] => 0
  | m, k, o :: os => if codeM m o ≠ 0 then codeM m o else if 2000 < k + (evM m o).length ∨ 12 < liveN (execM m o) then 5 else trC (execM m o) (k + (evM m o).length) os
/-- operations that can be carried out and make no events -/
inductive Calm : MachM → List OpM → MachM → Prop
  | nil (m : MachM) : Calm m [] m
  | cons {m e : MachM} {o : OpM} {os : List OpM} (h : codeM m o = 0) (he : evM m o = []) (hl : liveN (execM m o) ≤ 12) (k : Calm (execM m o) os e) : Calm m (o :: os) e
theorem Calm.append {a b c : MachM} {os ps : List OpM} (h : Calm a os b) (k : Calm b ps c) : Calm a (os ++ ps) c := by
  induction h with
  | nil => exact k
  | cons h1 h2 h3 _ ih => exact .cons h1 h2 h3 (ih k)
/-- operations of which one fails, those ahead of it are calm -/
def Stuck (m : MachM) (ops : List OpM) (c : Int) : Prop := ∃ pre o post e, ops = pre ++ o :: post ∧ Calm m pre e ∧ codeM e o = c
theorem Stuck.after {m e : MachM} {pre ops : List OpM} {c : Int} (h : Calm m pre e) (k : Stuck e ops c) : Stuck m (pre ++ ops) c := by
  obtain ⟨p, o, q, e', rfl, h1, h2⟩ := k
  exact ⟨pre ++ p, o, q, e', by simp, h.append h1, h2⟩
theorem Stuck.more {m : MachM} {ops os : List OpM} {c : Int} (k : Stuck m ops c) : Stuck m (ops ++ os) c := by
  obtain ⟨p, o, q, e', rfl, h1, h2⟩ := k
  exact ⟨p, o, q ++ os, e', by simp, h1, h2⟩
theorem runM_c {m : MachM} {o : OpM} {os : List OpM} (h : codeM m o = 0) : runM m (o :: os) = runM (execM m o) os := by rw [runM, if_pos h]
theorem stopM_c {m : MachM} {o : OpM} {os : List OpM} (h : codeM m o = 0) : stopM m (o :: os) = stopM (execM m o) os := by rw [stopM, if_pos h]
theorem trC_c {m : MachM} {k : Nat} {o : OpM} {os : List OpM} (h : codeM m o = 0) (h1 : k + (evM m o).length ≤ 2000) (h2 : liveN (execM m o) ≤ 12) : trC m k (o :: os) = trC (execM m o) (k + (evM m o).length) os := by rw [trC, if_neg (by rw [h]; simp), if_neg (by omega)]
theorem Calm.run {m e : MachM} {os ps : List OpM} (h : Calm m os e) : runM m (os ++ ps) = runM e ps ∧ stopM m (os ++ ps) = stopM e ps ∧ evsM m (os ++ ps) = evsM e ps ∧ ∀ k, k ≤ 2000 → trC m k (os ++ ps) = trC e k ps := by
  induction h with
  | nil => exact ⟨rfl, rfl, rfl, fun _ _ => rfl⟩
  | @cons m e o os h1 h2 h3 _ ih =>
    obtain ⟨a1, a2, a3, a4⟩ := ih
    refine ⟨?_, ?_, ?_, fun k hk => ?_⟩
    · exact (runM_c h1).trans a1
    · exact (stopM_c h1).trans a2
    · show evM m o ++ evsM (execM m o) (os ++ ps) = _
      rw [h2, a3]; rfl
    · refine (trC_c h1 (by rw [h2]; simpa using hk) h3).trans ?_
      rw [h2]
      exact a4 k hk
theorem Stuck.run {m : MachM} {ops : List OpM} {c : Int} (h : Stuck m ops c) (hc : c ≠ 0) : runM m ops = c := by
  obtain ⟨p, o, q, e, rfl, h1, h2⟩ := h
  rw [(h1.run (ps := o :: q)).1]
  unfold runM
  rw [if_neg (by rw [h2]; exact hc), h2]
theorem sum_set : ∀ (l : List (List Int)) (i : Nat) (x : List Int), i < l.length → ((l.set i x).map List.length).sum + (l.getD i []).length = (l.map List.length).sum + x.length
  | a :: l, 0, x, _ => by simp; omega
  | a :: l, i + 1, x, h => by
    have := sum_set l i x (by simpa using h)
    simp at this ⊢
    omega
/-- columns alone: the rack in the middle, nothing on the back bed, loops just on the front needles of the columns -/
structure ColS (m : MachM) (now : List Int) (t : Nat) : Prop where
  inv : MInv m
  wd : m.wd = 24
  rk : m.rack = 0
  bk : ∀ i, i < 24 → m.bk.getD i [] = []
  fr : ∀ i, i < 24 → (m.fr.getD i [] ≠ [] ↔ ((i : Nat) : Int) ∈ now)
  lv : liveN m = t
theorem crossE_zero {p s : Int} {a b : Nat} (h : a = 0 ∨ b = 0) : crossE p s a b = [] := by
  refine List.eq_nil_of_length_eq_zero ?_
  rw [crossE_length]
  rcases h with rfl | rfl <;> simp
theorem rackTo_nil {p : MacM} {r s : Int} (h : ∀ i, i < p.fr.length → rackE p r s i = []) : ∀ i, i ≤ p.fr.length → rackTo p r s i = []
  | 0, _ => rfl
  | i + 1, hi => by rw [rackTo, rackTo_nil h i (by omega), h i (by omega)]; rfl
theorem racksTo_nil {p : MacM} {r s : Int} : ∀ n, (∀ k, k < n → oneRack p (r + s * (k : Nat)) s = []) → racksTo p r s n = []
  | 0, _ => rfl
  | n + 1, h => by rw [racksTo, racksTo_nil n (fun k hk => h k (by omega)), h n (by omega)]; rfl
/-- racking makes no events, where no loops of the back bed are taken past others -/
theorem rackAll_nil {p : MacM} {t : Int} (hf : p.fr.length = 24) (hb : p.bk.length = 24) (ha : ∀ i k : Nat, i < 24 → k < 24 → lenF p i ≠ 0 → lenB p k ≠ 0 → ((p.rk ≤ t → (i : Int) ≤ k + p.rk ∨ k + t < i) ∧ (t < p.rk → (i : Int) ≤ k + t ∨ k + p.rk < i))) : rackAllM p t = [] := by
  have key : ∀ (r s : Int), (∀ i k : Nat, i < 24 → k < 24 → facK r s i = k → lenF p i = 0 ∨ lenB p k = 0) → oneRack p r s = [] := fun r s h => by
    unfold oneRack
    refine rackTo_nil (fun i hi => ?_) _ (Nat.le_refl _)
    unfold rackE
    split
    · rename_i hk
      have h1 := h i (facK r s i).toNat (by omega) (by omega) (by omega)
      split
      · exact crossE_zero (h1.elim .inr .inl)
      · exact crossE_zero h1
    · rfl
  unfold rackAllM
  split
  · rename_i h0
    refine racksTo_nil _ fun n hn => key _ _ fun i k hi hk he => ?_
    unfold facK at he
    rw [if_pos (by omega)] at he
    by_cases h1 : lenF p i = 0
    · exact .inl h1
    · by_cases h2 : lenB p k = 0
      · exact .inr h2
      · have := (ha i k hi hk h1 h2).1 h0
        omega
  · rename_i h0
    refine racksTo_nil _ fun n hn => key _ _ fun i k hi hk he => ?_
    unfold facK at he
    rw [if_neg (by omega)] at he
    by_cases h1 : lenF p i = 0
    · exact .inl h1
    · by_cases h2 : lenB p k = 0
      · exact .inr h2
      · have := (ha i k hi hk h1 h2).2 (by omega)
        omega
theorem evM_xfer (m : MachM) (a b c d : Int) : evM m ⟨4, 0, a, b, c, d, 0, 0⟩ = [] := rfl
theorem appOut_mem {now : List Int} {f t : Int} (hs : now.Pairwise (· < ·)) (hb : ∀ x ∈ now, 0 ≤ x ∧ x ≤ 23) (hc : appCode now f t = 0) : isMoveP f t ∧ f ∈ now ∧ (∀ x ∈ now, betB f t x = false) ∧ ∀ y, y ∈ appOut now f t ↔ y = t ∨ (y ∈ now ∧ y ≠ f) := by
  have hp : placesB false now = true ∧ isMoveP f t ∧ f ∈ now ∧ now.any (betB f t) = false := by
    unfold appCode at hc
    by_cases h1 : placesB false now = true
    · rw [if_pos h1] at hc
      by_cases h2 : isMoveP f t
      · rw [if_pos h2] at hc
        by_cases h3 : f ∈ now
        · rw [if_pos h3] at hc
          by_cases h4 : now.any (betB f t) = true
          · rw [if_pos h4] at hc; omega
          · exact ⟨h1, h2, h3, by simpa using h4⟩
        · rw [if_neg h3] at hc; omega
      · rw [if_neg h2] at hc; omega
    · rw [if_neg h1] at hc; omega
  obtain ⟨h1, h2, h3, h4⟩ := hp
  have h5 : ∀ x ∈ now, betB f t x = false := by simpa using h4
  refine ⟨h2, h3, h5, fun y => ?_⟩
  -- the list as columns
  have hat : At now.length now (ix now) := ⟨hs, fun y => ix_mem, (places_rise h1).1, fun i hi => (places_rise h1).2.1 i hi⟩
  obtain ⟨i, hi, hie⟩ := ix_mem.1 h3
  have hst := (hat.step hi (b := t) (by rw [hie]; exact h2) (fun j hj hji => ⟨fun e => by
    rcases Nat.lt_or_ge i j with h | h
    · have := sorted_ix.1 hs i j h hj; omega
    · have := sorted_ix.1 hs j i (by omega) hi; omega, by rw [hie]; exact h5 _ (ix_mem.2 ⟨j, hj, rfl⟩)⟩)).2
  rw [hie] at hst
  rw [hst.mem]
  constructor
  · rintro ⟨j, hj, e⟩
    by_cases hji : j = i
    · rw [if_pos hji] at e; exact .inl e.symm
    · rw [if_neg hji] at e
      refine .inr ⟨ix_mem.2 ⟨j, hj, e⟩, fun e2 => ?_⟩
      have e3 : ix now j = ix now i := by omega
      rcases Nat.lt_or_ge i j with h | h
      · have := sorted_ix.1 hs i j h hj; omega
      · have := sorted_ix.1 hs j i (by omega) hi; omega
  · rintro (rfl | ⟨h6, h7⟩)
    · exact ⟨i, hi, if_pos rfl⟩
    · obtain ⟨j, hj, e⟩ := ix_mem.1 h6
      exact ⟨j, hj, by rw [if_neg (fun e2 => h7 (by rw [← e, e2, hie]))]; exact e⟩
end Go.Proofs.Ytplabnjdhkmmkaa
end
section
set_option linter.unusedSimpArgs false
set_option linter.unusedVariables false
namespace Go.Proofs.Ytplabnjdhkmmkaa
open Go.ChangeShapes Go.WideShapes Go.ChangeAt Go.RowKit
theorem gdS_eq {l : List (List Int)} {i : Nat} {x : List Int} (h : i < l.length) : (l.set i x).getD i [] = x := by rw [List.getD_eq_getElem?_getD, List.getElem?_set_self h]; rfl
theorem gdS_ne {l : List (List Int)} {i j : Nat} {x : List Int} (h : i ≠ j) : (l.set i x).getD j [] = l.getD j [] := by rw [List.getD_eq_getElem?_getD, List.getElem?_set_ne h, ← List.getD_eq_getElem?_getD]
/-- all loops of a machine are on the front needles -/
theorem live_back {l : List (List Int)} (h : ∀ i, i < l.length → l.getD i [] = []) : (l.map List.length).sum = 0 := by
  induction l with
  | nil => rfl
  | cons a l ih =>
    have h0 := h 0 (by simp)
    have := ih (fun i hi => by simpa using h (i + 1) (by simpa using hi))
    simp at h0 ⊢
    rw [h0]
    simpa using this
theorem okOp_of {w : Int} {o : OpM} (h1 : validB o = true) (h2 : o.fa < w) (h3 : o.ta < w) : okOp w o := ⟨h1, h2, h3⟩
theorem valid_xfer {fb fa tb ta : Int} (h : (fb = 1 ∧ tb = 2) ∨ (fb = 2 ∧ tb = 1)) (hf : 0 ≤ fa ∧ fa ≤ 23) (ht : 0 ≤ ta ∧ ta ≤ 23) : validB ⟨4, 0, fb, fa, tb, ta, 0, 0⟩ = true := by
  rcases h with ⟨rfl, rfl⟩ | ⟨rfl, rfl⟩ <;> simp [validB, needleB, bedB, placeB, hf, ht]
theorem valid_rack {r : Int} (h : -3 ≤ r ∧ r ≤ 3) : validB ⟨7, 0, 0, 0, 0, 0, 0, r⟩ = true := by simp [validB, rackB, h]
/-- a move that is valid runs, or does not find room at its third operation -/
theorem move_runs {m : MachM} {now : List Int} {n : Nat} (h : ColS m now n) (hs : now.Pairwise (· < ·)) (hb : ∀ x ∈ now, 0 ≤ x ∧ x ≤ 23) (hn : n ≤ 12) {f t : Int} (hc : appCode now f t = 0) :
    (∃ e, Calm m (rackM f t) e ∧ ColS e (appOut now f t) n) ∨ Stuck m (rackM f t) 5 := by
  obtain ⟨⟨hf, ht, hne, hd⟩, hmem, hbet, hout⟩ := appOut_mem hs hb hc
  obtain ⟨hi, hwd, hrk, hbk, hfr, hlv⟩ := h
  obtain ⟨wd, rk, fr, bk, cs, nl⟩ := m
  obtain rfl : wd = 24 := hwd
  obtain rfl : rk = 0 := hrk
  have hfl : fr.length = 24 := by have := hi.fl; simp at this; omega
  have hbl : bk.length = 24 := by have := hi.bl; simp at this; omega
  obtain ⟨a, rfl⟩ : ∃ a : Nat, f = (a : Int) := ⟨f.toNat, by omega⟩
  obtain ⟨b, rfl⟩ : ∃ b : Nat, t = (b : Int) := ⟨t.toNat, by omega⟩
  have ha : a < 24 := by omega
  have hb' : b < 24 := by omega
  have hab : a ≠ b := by omega
  simp only at hbk hfr hlv
  obtain ⟨L, hL⟩ : ∃ L, L = fr.getD a [] := ⟨_, rfl⟩
  have hLne : L ≠ [] := by rw [hL]; exact (hfr a ha).2 hmem
  have hLl : L.length ≠ 0 := fun e => hLne (List.eq_nil_of_length_eq_zero e)
  have hba := hbk a ha
  obtain ⟨R, hR⟩ : ∃ R, R = fr.getD b [] := ⟨_, rfl⟩
  -- the four operations and the machines behind them
  have oA1 : onM ⟨24, 0, fr, bk, cs, nl⟩ 1 a = L := hL.symm
  have oA2 : onM ⟨24, 0, fr, bk, cs, nl⟩ 2 a = [] := hba
  have e1 : execM ⟨24, 0, fr, bk, cs, nl⟩ ⟨4, 0, 1, a, 2, a, 0, 0⟩ = ⟨24, 0, fr.set a [], bk.set a L, cs, nl⟩ := by
    have hbo : bothM ⟨24, 0, fr, bk, cs, nl⟩ ⟨4, 0, 1, a, 2, a, 0, 0⟩ = L := by
      unfold bothM
      rw [if_pos rfl]
      show onM _ 1 a ++ onM _ 2 a = L
      rw [oA1, oA2, List.append_nil]
    show setM (setM _ 2 a (bothM _ _)) 1 a [] = _
    rw [hbo]
    rfl
  have c1 : codeM ⟨24, 0, fr, bk, cs, nl⟩ ⟨4, 0, 1, a, 2, a, 0, 0⟩ = 0 := by
    refine code_mk rfl (fun h => by cases h) (fun h => by cases h) (fun h => by cases h) (fun _ => ⟨rfl, ?_, ?_⟩)
    · show (onM _ 1 a).length ≠ 0
      rw [oA1]; exact hLl
    · show (onM _ 1 a).length + (onM _ 2 a).length ≤ 4
      have h4 := (hi.on_ 1 a).1
      rw [oA1] at h4 ⊢
      rw [oA2]
      simpa using h4
  have i1 := hi.exec (okOp_of (valid_xfer (.inl ⟨rfl, rfl⟩) hf hf) (by simp; omega) (by simp; omega)) c1
  rw [e1] at i1
  have e2 : execM ⟨24, 0, fr.set a [], bk.set a L, cs, nl⟩ ⟨7, 0, 0, 0, 0, 0, 0, (b : Int) - a⟩ = ⟨24, (b : Int) - a, fr.set a [], bk.set a L, cs, nl⟩ := rfl
  have c2 : codeM ⟨24, 0, fr.set a [], bk.set a L, cs, nl⟩ ⟨7, 0, 0, 0, 0, 0, 0, (b : Int) - a⟩ = 0 := code7 rfl
  have i2 := i1.exec (okOp_of (valid_rack hd) (by simp) (by simp)) c2
  rw [e2] at i2
  have hsf := sum_set fr a [] (by omega)
  have hsb := sum_set bk a L (by omega)
  have hb0 := live_back (l := bk) (fun i h => hbk i (by omega))
  have l1 : liveN ⟨24, 0, fr.set a [], bk.set a L, cs, nl⟩ = n := by
    unfold liveN at hlv ⊢
    simp only at hlv ⊢
    rw [← hL] at hsf
    rw [hba] at hsb
    simp only [List.length_nil] at hsf hsb
    omega
  have ev2 : evM ⟨24, 0, fr.set a [], bk.set a L, cs, nl⟩ ⟨7, 0, 0, 0, 0, 0, 0, (b : Int) - a⟩ = [] := by
    show rackAllM _ _ = []
    refine rackAll_nil (by simp [macOf, hfl]) (by simp [macOf, hbl]) fun i k hi2 hk2 h1 h2 => ?_
    unfold lenF at h1
    unfold lenB at h2
    simp only [macOf] at h1 h2 ⊢
    have hka : k = a := by
      by_cases e : a = k
      · exact e.symm
      · rw [gdS_ne e, hbk k hk2] at h2
        exact absurd rfl h2
    have hia : i ≠ a := fun e => by
      subst e
      rw [gdS_eq (by omega)] at h1
      exact h1 rfl
    have hin : ((i : Nat) : Int) ∈ now := by
      rw [gdS_ne (Ne.symm hia)] at h1
      exact (hfr i hi2).1 (fun e => h1 (by rw [e]; rfl))
    have hbi := of_decide_eq_false (hbet _ hin)
    omega
  by_cases hfull : 4 < L.length + R.length
  · right
    have c3 : codeM ⟨24, (b : Int) - a, fr.set a [], bk.set a L, cs, nl⟩ ⟨4, 0, 2, a, 1, b, 0, 0⟩ = 5 := by
      unfold codeM
      rw [if_neg (by simp [fitsM]), if_neg (by simp [makesB]), if_neg (by simp), if_neg (by simp), if_pos (by simp), if_neg (by simp [placeM]; omega)]
      have h1 : onM ⟨24, (b : Int) - a, fr.set a [], bk.set a L, cs, nl⟩ 2 a = L := by
        show (bk.set a L).getD a [] = L
        exact gdS_eq (by omega)
      have h2 : onM ⟨24, (b : Int) - a, fr.set a [], bk.set a L, cs, nl⟩ 1 b = R := by
        show (fr.set a []).getD b [] = R
        rw [gdS_ne hab]
        exact hR.symm
      show (if (onM _ 2 a).length = 0 then (7 : Int) else if 4 < (onM _ 2 a).length + (onM _ 1 b).length then 5 else 0) = 5
      rw [h1, h2, if_neg hLl, if_pos hfull]
    refine ⟨[⟨4, 0, 1, a, 2, a, 0, 0⟩, ⟨7, 0, 0, 0, 0, 0, 0, (b : Int) - a⟩], ⟨4, 0, 2, a, 1, b, 0, 0⟩, [⟨7, 0, 0, 0, 0, 0, 0, 0⟩], _, rfl, .cons c1 (evM_xfer _ _ _ _ _) (by rw [e1, l1]; exact hn) (.cons (by rw [e1]; exact c2) (by rw [e1]; exact ev2) (by rw [e1, e2]; exact Nat.le_trans (Nat.le_of_eq l1) hn) (.nil _)), ?_⟩
    rw [e1, e2]
    exact c3
  · left
    have h1 : onM ⟨24, (b : Int) - a, fr.set a [], bk.set a L, cs, nl⟩ 2 a = L := by
      show (bk.set a L).getD a [] = L
      exact gdS_eq (by omega)
    have h2 : onM ⟨24, (b : Int) - a, fr.set a [], bk.set a L, cs, nl⟩ 1 b = R := by
      show (fr.set a []).getD b [] = R
      rw [gdS_ne hab]
      exact hR.symm
    have c3 : codeM ⟨24, (b : Int) - a, fr.set a [], bk.set a L, cs, nl⟩ ⟨4, 0, 2, a, 1, b, 0, 0⟩ = 0 := by
      refine code_mk rfl (fun h => by cases h) (fun h => by cases h) (fun h => by cases h) (fun _ => ⟨by simp [placeM]; omega, ?_, ?_⟩)
      · show (onM _ 2 a).length ≠ 0
        rw [h1]; exact hLl
      · show (onM _ 2 a).length + (onM _ 1 b).length ≤ 4
        rw [h1, h2]; omega
    have e3 : execM ⟨24, (b : Int) - a, fr.set a [], bk.set a L, cs, nl⟩ ⟨4, 0, 2, a, 1, b, 0, 0⟩ = ⟨24, (b : Int) - a, (fr.set a []).set b (R ++ L), bk, cs, nl⟩ := by
      have hbo : bothM ⟨24, (b : Int) - a, fr.set a [], bk.set a L, cs, nl⟩ ⟨4, 0, 2, a, 1, b, 0, 0⟩ = R ++ L := by
        unfold bothM
        rw [if_neg (by simp)]
        show onM _ 1 b ++ onM _ 2 a = _
        rw [h1, h2]
      show setM (setM _ 1 b (bothM _ _)) 2 a [] = _
      rw [hbo]
      show (⟨24, (b : Int) - a, (fr.set a []).set b (R ++ L), (bk.set a L).set a [], cs, nl⟩ : MachM) = _
      rw [List.set_set]
      have h9 := set_same (l := bk) (i := a) (by omega)
      rw [hba] at h9
      rw [h9]
    have i3 := i2.exec (okOp_of (valid_xfer (.inr ⟨rfl, rfl⟩) hf ht) (by simp; omega) (by simp; omega)) c3
    rw [e3] at i3
    have e4 : execM ⟨24, (b : Int) - a, (fr.set a []).set b (R ++ L), bk, cs, nl⟩ ⟨7, 0, 0, 0, 0, 0, 0, 0⟩ = ⟨24, 0, (fr.set a []).set b (R ++ L), bk, cs, nl⟩ := rfl
    have c4 : codeM ⟨24, (b : Int) - a, (fr.set a []).set b (R ++ L), bk, cs, nl⟩ ⟨7, 0, 0, 0, 0, 0, 0, 0⟩ = 0 := code7 rfl
    have i4 := i3.exec (okOp_of (valid_rack (by omega)) (by simp) (by simp)) c4
    rw [e4] at i4
    have hs2 := sum_set (fr.set a []) b (R ++ L) (by simp; omega)
    have l3 : liveN ⟨24, (b : Int) - a, (fr.set a []).set b (R ++ L), bk, cs, nl⟩ = n := by
      unfold liveN at hlv ⊢
      simp only at hlv ⊢
      rw [gdS_ne hab, ← hR, List.length_append] at hs2
      rw [← hL] at hsf
      simp only [List.length_nil] at hsf
      omega
    have ev4 : evM ⟨24, (b : Int) - a, (fr.set a []).set b (R ++ L), bk, cs, nl⟩ ⟨7, 0, 0, 0, 0, 0, 0, 0⟩ = [] := by
      show rackAllM _ _ = []
      refine rackAll_nil (by simp [macOf, hfl]) (by simp [macOf, hbl]) fun i k hi2 hk2 h1 h2 => ?_
      unfold lenB at h2
      simp only [macOf] at h2
      rw [hbk k hk2] at h2
      exact absurd rfl h2
    refine ⟨⟨24, 0, (fr.set a []).set b (R ++ L), bk, cs, nl⟩, ?_, i4, rfl, rfl, hbk, fun i hi2 => ?_, l3⟩
    · refine .cons c1 (evM_xfer _ _ _ _ _) (by rw [e1, l1]; exact hn) ?_
      rw [e1]
      refine .cons c2 ev2 (by rw [e2]; exact Nat.le_trans (Nat.le_of_eq l1) hn) ?_
      rw [e2]
      refine .cons c3 (evM_xfer _ _ _ _ _) (by rw [e3, l3]; exact hn) ?_
      rw [e3]
      refine .cons c4 ev4 (by rw [e4]; exact Nat.le_trans (Nat.le_of_eq l3) hn) ?_
      rw [e4]
      exact .nil _
    · show ((fr.set a []).set b (R ++ L)).getD i [] ≠ [] ↔ _
      rw [hout]
      by_cases hib : b = i
      · subst hib
        rw [gdS_eq (by simp; omega)]
        exact ⟨fun _ => .inl rfl, fun _ e => hLne (List.append_eq_nil_iff.1 e).2⟩
      · rw [gdS_ne hib]
        by_cases hia : a = i
        · subst hia
          rw [gdS_eq (by omega)]
          exact ⟨fun h => absurd rfl h, fun h => h.elim (fun h => absurd h (by omega)) (fun h => absurd rfl h.2)⟩
        · rw [gdS_ne hia, hfr i hi2]
          exact ⟨fun h => .inr ⟨h, by omega⟩, fun h => h.elim (fun h => absurd h (by omega)) (fun h => h.1)⟩
/-- moves that are valid one after the other run, or do not find room -/
theorem moves_run {now e : List Int} {ms : List MoveM} (hr : Runs now ms e) : ∀ {m : MachM} {n : Nat}, ColS m now n → now.Pairwise (· < ·) → (∀ x ∈ now, 0 ≤ x ∧ x ≤ 23) → n ≤ 12 → (∃ z, Calm m (colsM ms) z ∧ ColS z e n) ∨ Stuck m (colsM ms) 5 := by
  induction hr with
  | nil => exact fun h _ _ _ => .inl ⟨_, .nil _, h⟩
  | @cons l e mv ms hc _ ih =>
    intro m n h hs hb hn
    have hcl : colsM (mv :: ms) = rackM mv.fr mv.to ++ colsM ms := rfl
    rw [hcl]
    rcases move_runs h hs hb hn hc with ⟨z, k1, k2⟩ | k1
    · have hm := appOut_mem hs hb hc
      have hso : (appOut l mv.fr mv.to).Pairwise (· < ·) := by
        rw [appOut_yes hc]
        refine (once_sorted (fun i j hij hj => ?_) _ (by rw [mvL_length]; exact Nat.le_refl _)).1
        rw [mvL_length] at hj
        rw [mvL_ix (by omega), mvL_ix hj]
        rcases Nat.lt_or_ge i j with h1 | h1
        · have h2 := List.pairwise_iff_getElem.1 hs i j (by omega) hj h1
          have b1 := of_decide_eq_false (hm.2.2.1 _ (List.getElem_mem (show i < l.length by omega)))
          have b2 := of_decide_eq_false (hm.2.2.1 _ (List.getElem_mem hj))
          unfold mvTo
          obtain ⟨⟨-, -, hne, -⟩, -⟩ := hm
          split <;> split <;> omega
        · obtain rfl : i = j := by omega
          omega
      have hbo : ∀ x ∈ appOut l mv.fr mv.to, 0 ≤ x ∧ x ≤ 23 := fun x hx => by
        rcases (hm.2.2.2 x).1 hx with rfl | ⟨h1, -⟩
        · exact hm.1.2.1
        · exact hb x h1
      rcases ih k2 hso hbo hn with ⟨z2, k3, k4⟩ | k3
      · exact .inl ⟨z2, k1.append k3, k4⟩
      · exact .inr (k3.after k1)
    · exact .inr k1.more
end Go.Proofs.Ytplabnjdhkmmkaa
end
section
set_option linter.unusedSimpArgs false
set_option linter.unusedVariables false
namespace Go.Proofs.Ytplabnjdhkmmkaa
open Go.ChangeShapes Go.WideShapes Go.ChangeAt Go.RowKit
def knit1 (c x : Int) : OpM := ⟨1, 1, 1, x, 0, 0, c, 0⟩
def knitM (xs : List Int) (c : Int) : List OpM := ⟨8, 1, 0, 0, 0, 0, c, 0⟩ :: xs.map (knit1 c)
def knitTo (xs : List Int) (c : Int) (j : Nat) : List OpM := ⟨8, 1, 0, 0, 0, 0, c, 0⟩ :: (xs.take j).map (knit1 c)
theorem knitTo_succ (xs : List Int) (c : Int) (j : Nat) (h : j < xs.length) : knitTo xs c (j + 1) = knitTo xs c j ++ [knit1 c xs[j]] := by
  unfold knitTo
  rw [List.take_succ_eq_append_getElem h, List.map_append]
  rfl
theorem knitTo_all (xs : List Int) (c : Int) : knitTo xs c xs.length = knitM xs c := by simp [knitTo, knitM]
theorem knitTo_length (xs : List Int) (c : Int) (j : Nat) (h : j ≤ xs.length) : (knitTo xs c j).length = j + 1 := by simp [knitTo]; omega
end Go.Proofs.Ytplabnjdhkmmkaa
end
section
set_option linter.unusedSimpArgs false
set_option linter.unusedVariables false
namespace Go.Proofs.Ytplabnjdhkmmkaa
open Go.ChangeShapes Go.WideShapes Go.ChangeAt Go.RowKit
/-- operations that are carried out, with their events -/
inductive Goes : MachM → List OpM → MachM → List EvM → Prop
  | nil (m : MachM) : Goes m [] m []
  | cons {m e : MachM} {o : OpM} {os : List OpM} {es : List EvM} (h : codeM m o = 0) (hl : liveN (execM m o) ≤ 12) (k : Goes (execM m o) os e es) : Goes m (o :: os) e (evM m o ++ es)
theorem Goes.run {m e : MachM} {os ps : List OpM} {es : List EvM} (h : Goes m os e es) : runM m (os ++ ps) = runM e ps ∧ stopM m (os ++ ps) = stopM e ps ∧ evsM m (os ++ ps) = es ++ evsM e ps ∧ ∀ k, k + es.length ≤ 2000 → trC m k (os ++ ps) = trC e (k + es.length) ps := by
  induction h with
  | nil => exact ⟨rfl, rfl, rfl, fun _ _ => rfl⟩
  | @cons m e o os es h1 h3 _ ih =>
    obtain ⟨a1, a2, a3, a4⟩ := ih
    refine ⟨(runM_c h1).trans a1, (stopM_c h1).trans a2, ?_, fun k hk => ?_⟩
    · show evM m o ++ evsM (execM m o) (os ++ ps) = _
      rw [a3, List.append_assoc]
    · rw [List.length_append] at hk ⊢
      refine (trC_c h1 (by omega) h3).trans ?_
      show trC (execM m o) (k + (evM m o).length) (os ++ ps) = _
      rw [a4 _ (by omega), Nat.add_assoc]
theorem Goes.snoc {m e : MachM} {os : List OpM} {es : List EvM} {o : OpM} (h : Goes m os e es) (h1 : codeM e o = 0) (h2 : liveN (execM e o) ≤ 12) : Goes m (os ++ [o]) (execM e o) (es ++ evM e o) := by
  induction h with
  | nil => have := Goes.cons h1 h2 (.nil _); simpa using this
  | cons a b _ ih => have := Goes.cons a b (ih h1 h2); simpa using this
/-- columns that are being knitted on their needles -/
structure KnitS (m : MachM) (now : List Int) (x : Int) : Prop where
  inv : MInv m
  wd : m.wd = 24
  rk : m.rack = 0
  bk : ∀ i, i < 24 → m.bk.getD i [] = []
  fr : ∀ i, i < 24 → (m.fr.getD i [] ≠ [] ↔ ((i : Nat) : Int) ∈ now)
  lv : liveN m = now.length
  nl : m.nl = now.length
  car : (carAt m 1).1 = true ∧ (carAt m 1).2 ≤ x
theorem valid_knit {x : Int} (h : 0 ≤ x ∧ x ≤ 23) : validB (knit1 1 x) = true := by simp [validB, knit1, dirB, needleB, bedB, placeB, carB, h]
theorem knit_run {m : MachM} {now : List Int} {x : Int} (h : KnitS m now x) (hx : 0 ≤ x ∧ x ≤ 23) (hn : x ∉ now) (hl : now.length < 12) : codeM m (knit1 1 x) = 0 ∧ (evM m (knit1 1 x)).length = 1 ∧ KnitS (execM m (knit1 1 x)) (now ++ [x]) (x + 1) := by
  obtain ⟨hi, hwd, hrk, hbk, hfr, hlv, hnl, hc1, hc2⟩ := h
  obtain ⟨wd, rk, fr, bk, cs, nl⟩ := m
  obtain rfl : wd = 24 := hwd
  obtain rfl : rk = 0 := hrk
  obtain rfl : nl = now.length := hnl
  have hfl : fr.length = 24 := by have := hi.fl; simp at this; omega
  have hbl : bk.length = 24 := by have := hi.bl; simp at this; omega
  obtain ⟨a, rfl⟩ : ∃ a : Nat, x = (a : Int) := ⟨x.toNat, by omega⟩
  have ha : a < 24 := by omega
  have hc0 : codeM ⟨24, 0, fr, bk, cs, now.length⟩ (knit1 1 a) = 0 := by
    refine code_mk ?_ (fun _ => by simp only []; omega) (fun h => by cases h) (fun h => by cases h) (fun h => by rcases h with h | h <;> cases h)
    unfold fitsM knit1
    rw [if_neg (by simp), if_neg (by simp), if_neg (by simp)]
    simp only []
    rw [hc1, Bool.true_and]
    exact decide_eq_true (.inl ⟨trivial, by simpa [placeM] using hc2⟩)
  have hin := hi.exec (okOp_of (valid_knit hx) (by simp [knit1]; omega) (by simp [knit1])) hc0
  have hfa : fr.getD a [] = [] := by
    by_cases e : fr.getD a [] = []
    · exact e
    · exact absurd ((hfr a ha).1 e) hn
  have he : execM ⟨24, 0, fr, bk, cs, now.length⟩ (knit1 1 a) = ⟨24, 0, (fr.set a []).set a [(now.length : Int)], bk, (execM ⟨24, 0, fr, bk, cs, now.length⟩ (knit1 1 a)).cs, now.length + 1⟩ := by
    show ridM (loopM (setM _ 1 a []) _) _ = _
    have h1 : onM (setM ⟨24, 0, fr, bk, cs, now.length⟩ 1 a []) 1 a = [] := onM_setM hi [] ⟨by omega, by simp; omega⟩
    unfold loopM
    show ridM { setM (setM ⟨24, 0, fr, bk, cs, now.length⟩ 1 a []) 1 a (onM (setM ⟨24, 0, fr, bk, cs, now.length⟩ 1 a []) 1 a ++ [((setM ⟨24, 0, fr, bk, cs, now.length⟩ 1 a []).nl : Int)]) with nl := (setM ⟨24, 0, fr, bk, cs, now.length⟩ 1 a []).nl + 1 } _ = _
    rw [h1]
    rfl
  have hcar : carAt (execM ⟨24, 0, fr, bk, cs, now.length⟩ (knit1 1 a)) 1 = (true, (a : Int) + 1) := by
    show carAt (ridM (loopM (setM _ 1 a []) _) _) 1 = _
    unfold ridM
    have hcl : (loopM (setM ⟨24, 0, fr, bk, cs, now.length⟩ 1 a []) (knit1 1 a)).cs = cs := by unfold loopM; show (setM (setM _ _ _ _) _ _ _).cs = _; rw [(setM_same _ _ _).2.2.1, (setM_same _ _ _).2.2.1]
    have h4 : cs.length = 4 := hi.cl
    show carAt (setCar _ 1 _) 1 = _
    rw [carAt_setCar (by rw [hcl]; exact h4) (by omega)]
    have h5 : (carAt (loopM (setM ⟨24, 0, fr, bk, cs, now.length⟩ 1 a []) (knit1 1 a)) 1).1 = true := by
      unfold carAt at hc1 ⊢
      rw [hcl]
      exact hc1
    have h6 : (loopM (setM ⟨24, 0, fr, bk, cs, now.length⟩ 1 a []) (knit1 1 a)).rack = 0 := by unfold loopM; show (setM (setM _ _ _ _) _ _ _).rack = _; rw [(setM_same _ _ _).2.1, (setM_same _ _ _).2.1]
    show ((carAt _ 1).1, behindM _ _) = _
    rw [h5]
    unfold behindM placeM
    simp [knit1]
  refine ⟨hc0, rfl, ?_⟩
  have hs1 := sum_set fr a [] (by omega)
  have hs2 := sum_set (fr.set a []) a [(now.length : Int)] (by simp; omega)
  rw [hfa] at hs1
  rw [gdS_eq (by omega)] at hs2
  rw [he] at hin ⊢
  refine ⟨hin, rfl, rfl, hbk, fun i hi2 => ?_, ?_, by simp, ?_⟩
  · show ((fr.set a []).set a [(now.length : Int)]).getD i [] ≠ [] ↔ _
    by_cases e : a = i
    · subst e
      rw [gdS_eq (by simp; omega)]
      simp
    · rw [gdS_ne e, gdS_ne e, hfr i hi2]
      simp
      omega
  · unfold liveN at hlv ⊢
    simp only at hlv ⊢
    simp at hs1 hs2 ⊢
    omega
  · rw [he] at hcar
    rw [hcar]
    exact ⟨rfl, Int.le_refl _⟩
theorem place_run {xs : List Int} (hp : placesB false xs = true) : ∃ z es, Goes (newM 24) (knitM xs 1) z es ∧ es.length = xs.length ∧ ColS z xs xs.length := by
  have hr := places_rise hp
  have key : ∀ j, j ≤ xs.length → ∃ z es, Goes (newM 24) (knitTo xs 1 j) z es ∧ es.length = j ∧ ∀ x, (∀ i, i < j → ix xs i + 1 ≤ x) → 0 ≤ x → KnitS z (xs.take j) x := by
    intro j
    induction j with
    | zero =>
      intro _
      have hi := newM_inv (w := 24) (by omega)
      have hc : codeM (newM 24) ⟨8, 1, 0, 0, 0, 0, 1, 0⟩ = 0 := rfl
      have hie := hi.exec (o := ⟨8, 1, 0, 0, 0, 0, 1, 0⟩) ⟨rfl, by show (0 : Int) < 24; omega, by show (0 : Int) < 24; omega⟩ hc
      refine ⟨_, _, .cons hc (by decide) (.nil _), rfl, fun x hx h0 => ⟨hie, rfl, rfl, fun i hi2 => ?_, fun i hi2 => ?_, rfl, rfl, rfl, ?_⟩⟩
      · show (List.replicate 24 ([] : List Int)).getD i [] = []
        rw [List.getD_eq_getElem?_getD, List.getElem?_replicate, if_pos hi2]; rfl
      · show (List.replicate 24 ([] : List Int)).getD i [] ≠ [] ↔ _
        rw [List.getD_eq_getElem?_getD, List.getElem?_replicate, if_pos hi2]
        simp
      · show (-3 : Int) ≤ x
        omega
    | succ j ih =>
      intro hj
      obtain ⟨z, es, h1, h2, h3⟩ := ih (by omega)
      have hb := hr.2.1 j (by omega)
      have hk := h3 (ix xs j) (fun i hi => by have := rise_all hp hi (show j < xs.length by omega); omega) hb.1
      have hnm : ix xs j ∉ xs.take j := fun hm => by
        obtain ⟨i, hi, e⟩ := List.getElem_of_mem hm
        rw [List.length_take] at hi
        rw [List.getElem_take] at e
        have h5 := rise_all hp (show i < j by omega) (show j < xs.length by omega)
        rw [ix_eq (show i < xs.length by omega), e] at h5
        omega
      obtain ⟨k1, k2, k3⟩ := knit_run hk hb hnm (by rw [List.length_take]; omega)
      have hl : (xs.take j ++ [ix xs j]) = xs.take (j + 1) := by rw [List.take_succ_eq_append_getElem (by omega), ix_eq (by omega)]
      rw [hl] at k3
      refine ⟨execM z (knit1 1 (ix xs j)), es ++ evM z (knit1 1 (ix xs j)), ?_, ?_, fun x hx h0 => ?_⟩
      · rw [knitTo_succ xs 1 j (by omega), ← ix_eq (by omega)]
        exact h1.snoc k1 (by rw [k3.lv, List.length_take]; omega)
      · rw [List.length_append, h2, k2]
      · have h6 := hx j (by omega)
        exact ⟨k3.inv, k3.wd, k3.rk, k3.bk, k3.fr, k3.lv, k3.nl, k3.car.1, Int.le_trans k3.car.2 h6⟩
  obtain ⟨z, es, h1, h2, h3⟩ := key xs.length (Nat.le_refl _)
  have hk := h3 24 (fun i hi => by have := hr.2.1 i hi; omega) (by omega)
  rw [List.take_length] at hk
  rw [knitTo_all] at h1
  exact ⟨z, es, h1, h2, hk.inv, hk.wd, hk.rk, hk.bk, hk.fr, hk.lv⟩
theorem stepsF_len8 : ∀ (n : Nat) (f t : Int) (k : Nat), (t - f ≤ 3 * k ∧ f - t ≤ 3 * k) → (stepsF n f t).length ≤ k
  | 0, _, _, _, _ => by simp [stepsF]
  | n + 1, f, t, k, h => by
    by_cases e : f = t
    · unfold stepsF; rw [if_pos e]; simp
    · rw [stepsF_go e]
      cases k with
      | zero => omega
      | succ k =>
        have := stepsF_len8 n (nextOf f t) t k (by unfold nextOf; split <;> (try split) <;> omega)
        simp only [List.length_cons]
        omega
theorem plan_len {xs ys : List Int} (hp : PlanOk xs ys) : (planM xs ys).length ≤ 128 := by
  obtain ⟨h1, h2, h3, h4⟩ := hp
  have hu : ∀ i, i < xs.length → (upAt xs ys i).length ≤ 8 := fun i hi => by
    have := h3 i hi; have := h4 i hi
    unfold upAt; split
    · exact stepsF_len8 24 _ _ 8 (by omega)
    · simp
  have hd : ∀ i, i < xs.length → (downAt xs ys i).length ≤ 8 := fun i hi => by
    have := h3 i hi; have := h4 i hi
    unfold downAt; split
    · exact stepsF_len8 24 _ _ 8 (by omega)
    · simp
  have ku : ∀ m, m ≤ xs.length → (upTo xs ys m).length ≤ 8 * m := by
    intro m
    induction m with
    | zero => simp [upTo]
    | succ m ih =>
      intro hm
      rw [upTo_succ, List.length_append]
      have := ih (by omega)
      have := hu (xs.length - 1 - m) (by omega)
      omega
  have kd : ∀ m, m ≤ xs.length → (downTo xs ys m).length ≤ 8 * m := by
    intro m
    induction m with
    | zero => simp [downTo]
    | succ m ih =>
      intro hm
      rw [downTo_succ, List.length_append]
      have := ih (by omega)
      have := hd m (by omega)
      omega
  unfold planM
  rw [List.length_append]
  have := ku xs.length (Nat.le_refl _)
  have := kd xs.length (Nat.le_refl _)
  omega
/-- all operations of FnMoves -/
def mvOps (xs ys : List Int) : List OpM := knitM xs 1 ++ colsM (planM xs ys)
theorem all_run {xs ys : List Int} (h : planCode xs ys = 0) : runM (newM 24) (mvOps xs ys) = 5 ∨ (runM (newM 24) (mvOps xs ys) = 0 ∧ trC (newM 24) 0 (mvOps xs ys) = 0 ∧ (evsM (newM 24) (mvOps xs ys)).length = xs.length ∧ ColS (stopM (newM 24) (mvOps xs ys)) (onceL ys ys ys.length) xs.length) := by
  have hp : placesB false xs = true := by
    unfold planCode at h
    split at h
    · rename_i hh; exact hh.1
    · omega
  have hr := places_rise hp
  obtain ⟨z, es, h1, h2, h3⟩ := place_run hp
  obtain ⟨r1, r2, r3, r4⟩ := h1.run (ps := colsM (planM xs ys))
  unfold mvOps
  have hs : xs.Pairwise (· < ·) := sorted_ix.2 fun i j hij hj => rise_all hp hij hj
  have hb : ∀ x ∈ xs, 0 ≤ x ∧ x ≤ 23 := (places_bd hp).2
  rcases moves_run (plan_runs h) h3 hs hb (by omega) with ⟨e, k1, k2⟩ | k1
  · right
    obtain ⟨q1, q2, q3, q4⟩ := k1.run (ps := [])
    rw [List.append_nil] at q1 q2 q3
    refine ⟨by rw [r1, q1]; rfl, ?_, ?_, ?_⟩
    · rw [r4 0 (by omega)]
      have := q4 (0 + es.length) (by omega)
      rw [List.append_nil] at this
      rw [this]; rfl
    · rw [r3, q3, List.length_append, h2]; rfl
    · rw [r2, q2]; exact k2
  · left
    rw [r1]
    exact k1.run (by omega)
end Go.Proofs.Ytplabnjdhkmmkaa
end
