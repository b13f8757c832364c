/- The first saving, IsOptimal on both sides. No condition but room. -/
import Derived.Test.YtiiodfcbpmkodaaMachM
import Derived.Test.YtiiodfcbpmkodaaMZ3
namespace Go.Proofs.Ytiiodfcbpmkodaa
def cutN (r : Int) : Nat := if r = 4 ∨ r = 5 then 2 else 1
def cutM (ops : List OpM) (r : Int) (i : Nat) : List OpM := ops.take i ++ ops.drop (i + cutN r)
theorem run_two {m : MachM} {a b : OpM} {os : List OpM} (h : runM m (a :: b :: os) = 0) : codeM m a = 0 ∧ codeM (execM m a) b = 0 ∧ runM (execM (execM m a) b) os = 0 := by
  unfold runM at h
  by_cases h1 : codeM m a = 0
  · rw [if_pos h1] at h
    unfold runM at h
    by_cases h2 : codeM (execM m a) b = 0
    · rw [if_pos h2] at h; exact ⟨h1, h2, h⟩
    · rw [if_neg h2] at h; exact absurd h h2
  · rw [if_neg h1] at h; exact absurd h h1
theorem run_cons {m : MachM} {a : OpM} {os : List OpM} (h1 : codeM m a = 0) (h : runM (execM m a) os = 0) : runM m (a :: os) = 0 := by unfold runM; rw [if_pos h1]; exact h
theorem exec7 {m : MachM} {o : OpM} (h : o.kind = 7) : execM m o = { m with rack := o.rack } := by
  unfold execM
  rw [if_neg (by omega), if_neg (by omega), if_neg (by omega), if_neg (by omega), if_neg (by omega), if_neg (by omega), if_pos h]
theorem code_mk {m : MachM} {o : OpM} (h1 : fitsM m o = true) (h2 : makesB o.kind = true → m.nl ≠ 300) (h3 : o.kind = 2 → (onM m o.fb o.fa).length ≠ 4) (h4 : o.kind = 6 → (onM m o.fb o.fa).length ≠ 0)
    (h5 : o.kind = 4 ∨ o.kind = 5 → placeM o.fb o.fa m.rack = placeM o.tb o.ta m.rack ∧ (onM m o.fb o.fa).length ≠ 0 ∧ (onM m o.fb o.fa).length + (onM m o.tb o.ta).length ≤ 4) : codeM m o = 0 := by
  unfold codeM
  rw [if_neg (by rw [h1]; simp), if_neg (fun h => h2 h.1 h.2), if_neg (fun h => h3 h.1 h.2)]
  by_cases h6 : o.kind = 6
  · rw [if_pos h6, if_neg (h4 h6)]
  rw [if_neg h6]
  by_cases h45 : o.kind = 4 ∨ o.kind = 5
  · have := h5 h45
    rw [if_pos h45, if_neg (by simpa using this.1), if_neg this.2.1, if_neg (by omega)]
  · rw [if_neg h45]
theorem code7 {m : MachM} {o : OpM} (h : o.kind = 7) : codeM m o = 0 :=
  code_mk (by unfold fitsM; rw [if_pos (by omega)]) (fun h2 => by unfold makesB at h2; have := of_decide_eq_true h2; omega) (by omega) (by omega) (by omega)
theorem onM_setCar (m : MachM) (c : Int) (x : Bool × Int) (b a : Int) : onM (setCar m c x) b a = onM m b a := rfl
theorem setM_setCar (m : MachM) (c : Int) (x : Bool × Int) (b a : Int) (l : List Int) : setM (setCar m c x) b a l = setCar (setM m b a l) c x := by
  unfold setM setCar; split <;> rfl
theorem loopM_setCar (m : MachM) (c : Int) (x : Bool × Int) (o : OpM) : loopM (setCar m c x) o = setCar (loopM m o) c x := by
  unfold loopM setM setCar
  split <;> rfl
theorem shiftM_setCar (m : MachM) (c : Int) (x : Bool × Int) (o : OpM) : shiftM (setCar m c x) o = setCar (shiftM m o) c x := by
  unfold shiftM
  rw [setM_setCar, setM_setCar]
  rfl
theorem carAt_setCar {m : MachM} (h : m.cs.length = 4) {c : Int} (hc : 1 ≤ c ∧ c ≤ 4) (x : Bool × Int) : carAt (setCar m c x) c = x := by
  unfold carAt setCar
  rw [List.getD_eq_getElem?_getD, List.getElem?_set_self (by omega)]
  rfl
theorem ridM_setCar {m : MachM} (h : m.cs.length = 4) {o : OpM} (hc : 1 ≤ o.car ∧ o.car ≤ 4) (x : Bool × Int) (hx : x.1 = (carAt m o.car).1) : ridM (setCar m o.car x) o = ridM m o := by
  unfold ridM
  rw [carAt_setCar h hc, setCar_setCar, hx]
  rfl
/-- there and back again -/
theorem shift_back {m : MachM} (h : MInv m) {o n : OpM} (hb : (o.fb = 1 ∧ o.tb = 2) ∨ (o.fb = 2 ∧ o.tb = 1)) (hf : 0 ≤ o.fa ∧ o.fa < m.wd) (ht : 0 ≤ o.ta ∧ o.ta < m.wd) (he : onM m o.tb o.ta = [])
    (n1 : n.fb = o.tb) (n2 : n.fa = o.ta) (n3 : n.tb = o.fb) (n4 : n.ta = o.fa) : shiftM (shiftM m o) n = m := by
  have hbl := h.bl
  have hfl := h.fl
  obtain ⟨wd, rack, fr, bk, cs, nl⟩ := m
  dsimp only at *
  have hfi : o.fa.toNat < fr.length := by omega
  have hti : o.ta.toNat < bk.length := by omega
  have hfi' : o.fa.toNat < bk.length := by omega
  have hti' : o.ta.toNat < fr.length := by omega
  rcases hb with ⟨b1, b2⟩ | ⟨b1, b2⟩
  · have he' : bk.getD o.ta.toNat [] = [] := by rw [b2] at he; exact he
    have e1 : bothM ⟨wd, rack, fr, bk, cs, nl⟩ o = fr.getD o.fa.toNat [] := by
      unfold bothM onM bedOf; rw [if_pos b2, if_neg (by omega), if_pos b2]; dsimp only; rw [he', List.append_nil]
    have e2 : shiftM ⟨wd, rack, fr, bk, cs, nl⟩ o = ⟨wd, rack, fr.set o.fa.toNat [], bk.set o.ta.toNat (fr.getD o.fa.toNat []), cs, nl⟩ := by
      unfold shiftM; rw [e1]; unfold setM; rw [if_pos b2, if_neg (by omega)]
    rw [e2]
    have e3 : bothM ⟨wd, rack, fr.set o.fa.toNat [], bk.set o.ta.toNat (fr.getD o.fa.toNat []), cs, nl⟩ n = fr.getD o.fa.toNat [] := by
      unfold bothM onM bedOf
      rw [n1, n2, n3, n4, if_neg (by omega), if_neg (by omega), if_pos b2]
      dsimp only
      have : (fr.set o.fa.toNat []).getD o.fa.toNat [] = [] := by rw [List.getD_eq_getElem?_getD, List.getElem?_set_self hfi]; rfl
      rw [this, List.getD_eq_getElem?_getD (l := bk.set _ _), List.getElem?_set_self hti]
      rfl
    unfold shiftM
    rw [e3]
    unfold setM
    rw [n1, n2, n3, n4, if_pos b2, if_neg (show ¬ o.fb = 2 by omega)]
    dsimp only
    rw [List.set_set, List.set_set, set_same hfi]
    congr 1
    conv => lhs; rw [← he']
    exact set_same hti
  · have he' : fr.getD o.ta.toNat [] = [] := by rw [b2] at he; exact he
    have e1 : bothM ⟨wd, rack, fr, bk, cs, nl⟩ o = bk.getD o.fa.toNat [] := by
      unfold bothM onM bedOf; rw [if_neg (by omega), if_neg (by omega), if_pos b1]; dsimp only; rw [he', List.nil_append]
    have e2 : shiftM ⟨wd, rack, fr, bk, cs, nl⟩ o = ⟨wd, rack, fr.set o.ta.toNat (bk.getD o.fa.toNat []), bk.set o.fa.toNat [], cs, nl⟩ := by
      unfold shiftM; rw [e1]; unfold setM; rw [if_pos b1, if_neg (show ¬ o.tb = 2 by omega)]
    rw [e2]
    have e3 : bothM ⟨wd, rack, fr.set o.ta.toNat (bk.getD o.fa.toNat []), bk.set o.fa.toNat [], cs, nl⟩ n = bk.getD o.fa.toNat [] := by
      unfold bothM onM bedOf
      rw [n1, n2, n3, n4, if_pos b1, if_neg (by omega), if_pos b1]
      dsimp only
      have : (bk.set o.fa.toNat []).getD o.fa.toNat [] = [] := by rw [List.getD_eq_getElem?_getD, List.getElem?_set_self hfi']; rfl
      rw [this, List.getD_eq_getElem?_getD (l := fr.set _ _), List.getElem?_set_self hti']
      simp
    unfold shiftM
    rw [e3]
    unfold setM
    rw [n1, n2, n3, n4, if_neg (show ¬ o.tb = 2 by omega), if_pos b1]
    dsimp only
    rw [List.set_set, List.set_set, set_same hfi']
    congr 1
    conv => lhs; rw [← he']
    exact set_same hti'
theorem yarn_kinds {k : Int} (h : yarnB k = true) : k = 1 ∨ k = 2 ∨ k = 3 ∨ k = 5 := of_decide_eq_true h
theorem valid_yarn {o : OpM} (h : validB o = true) (hk : o.kind = 1 ∨ o.kind = 2 ∨ o.kind = 3 ∨ o.kind = 5) : (o.dir = 1 ∨ o.dir = -1) ∧ (0 ≤ o.fa ∧ o.fa ≤ 23) ∧ (1 ≤ o.car ∧ o.car ≤ 4) := by
  have := valid_cases h
  omega
set_option linter.unusedVariables false in
/-- an operation with yarn behind a miss, without it -/
theorem miss_step {m : MachM} (h : MInv m) {o n : OpM} (ho : okOp m.wd o) (hn : okOp m.wd n) (hk : o.kind = 3) (hc : codeM m o = 0) (hc2 : codeM (execM m o) n = 0) (hy : yarnB n.kind = true) (hcar : n.car = o.car) (hdir : n.dir = o.dir)
    (hf : 0 < (placeM n.fb n.fa m.rack - placeM o.fb o.fa m.rack) * o.dir) : codeM m n = 0 ∧ execM m n = execM (execM m o) n := by
  have hx : execM m o = setCar m o.car ((carAt m o.car).1, behindM m o) := by
    unfold execM; rw [if_neg (by omega), if_neg (by omega), if_pos hk]; rfl
  rw [hx] at hc2 ⊢
  have hyk := yarn_kinds hy
  obtain ⟨hd, _, hcb⟩ := valid_yarn ho.1 (by omega)
  obtain ⟨c1, _, _, _, _⟩ := code_zero hc
  obtain ⟨d1, d2, d3, d4, d5⟩ := code_zero hc2
  obtain ⟨hin, hpos⟩ := fits_in c1 (by omega)
  constructor
  · refine code_mk ?_ d2 d3 d4 d5
    unfold fitsM
    rw [if_neg (by omega), if_neg (by omega), if_neg (by omega), hcar, hdir, hin, Bool.true_and, decide_eq_true_eq]
    rcases hd with hd | hd
    · rw [hd] at hf hpos ⊢; omega
    · rw [hd] at hf hpos ⊢; omega
  · have e0 : ∀ x : MachM, x.cs = m.cs → ridM (setCar x o.car ((carAt m o.car).1, behindM m o)) n = ridM x n := fun x hxc => by
      rw [← hcar]
      refine ridM_setCar (by rw [hxc]; exact h.cl) (by omega) _ ?_
      unfold carAt
      rw [hxc]
    have s1 : ∀ x : MachM, (loopM x n).cs = x.cs := fun x => by unfold loopM; exact (setM_same _ _ _).2.2.1
    have s2 : ∀ x : MachM, (shiftM x n).cs = x.cs := fun x => by unfold shiftM; rw [(setM_same _ _ _).2.2.1, (setM_same _ _ _).2.2.1]
    unfold execM
    rcases hyk with hk1 | hk1 | hk1 | hk1
    · rw [if_pos hk1, if_pos hk1, setM_setCar, loopM_setCar, e0 _ (by rw [s1, (setM_same _ _ _).2.2.1])]
    · rw [if_neg (by omega), if_pos hk1, if_neg (by omega), if_pos hk1, loopM_setCar, e0 _ (s1 _)]
    · rw [if_neg (by omega), if_neg (by omega), if_pos hk1, if_neg (by omega), if_neg (by omega), if_pos hk1, e0 _ rfl]
    · rw [if_neg (by omega), if_neg (by omega), if_neg (by omega), if_neg (by omega), if_pos hk1, if_neg (by omega), if_neg (by omega), if_neg (by omega), if_neg (by omega), if_pos hk1, shiftM_setCar, loopM_setCar, e0 _ (by rw [s1, s2])]
theorem cut_head {m : MachM} (h : MInv m) {o : OpM} {os : List OpM} (hok : ∀ x ∈ o :: os, okOp m.wd x) (hr : runM m (o :: os) = 0) (hne : ruleM m o (os.headD opZ) ≠ 0) : runM m ((o :: os).drop (cutN (ruleM m o (os.headD opZ)))) = 0 := by
  have ho := hok o (by simp)
  generalize hR : ruleM m o (os.headD opZ) = r at *
  unfold ruleM at hR
  by_cases h7 : o.kind = 7
  · rw [if_pos h7] at hR
    by_cases hq : o.rack = m.rack
    · rw [if_pos hq] at hR
      subst hR
      have := (run_one hr).2
      rw [exec7 h7, hq] at this
      exact this
    rw [if_neg hq] at hR
    by_cases hn : (os.headD opZ).kind = 7
    · rw [if_pos hn] at hR
      subst hR
      cases os with
      | nil => simp [opZ] at hn
      | cons n os' =>
        have hn' : n.kind = 7 := hn
        have := (run_two hr).2.2
        rw [exec7 h7, exec7 hn'] at this
        refine run_cons (code7 hn') ?_
        rw [exec7 hn']
        exact this
    · rw [if_neg hn] at hR; exact absurd hR.symm hne
  rw [if_neg h7] at hR
  by_cases h3 : o.kind = 3
  · rw [if_pos h3] at hR
    by_cases hq : yarnB (os.headD opZ).kind = true ∧ (os.headD opZ).car = o.car ∧ (os.headD opZ).dir = o.dir ∧ 0 < (placeM (os.headD opZ).fb (os.headD opZ).fa m.rack - placeM o.fb o.fa m.rack) * o.dir
    · rw [if_pos hq] at hR
      subst hR
      cases os with
      | nil => have := hq.1; simp [opZ, yarnB] at this
      | cons n os' =>
        obtain ⟨q1, q2, q3, q4⟩ := hq
        obtain ⟨r1, r2, r3⟩ := run_two hr
        obtain ⟨m1, m2⟩ := miss_step h ho (hok n (by simp)) h3 r1 r2 q1 q2 q3 q4
        refine run_cons m1 ?_
        rw [m2]
        exact r3
    · rw [if_neg hq] at hR; exact absurd hR.symm hne
  rw [if_neg h3] at hR
  by_cases h4 : o.kind = 4
  · rw [if_pos h4] at hR
    by_cases hq : (onM m o.tb o.ta).length = 0 ∧ (os.headD opZ).kind = 4 ∧ (os.headD opZ).fb = o.tb ∧ (os.headD opZ).fa = o.ta ∧ (os.headD opZ).tb = o.fb ∧ (os.headD opZ).ta = o.fa
    · rw [if_pos hq] at hR
      subst hR
      cases os with
      | nil => have := hq.2.1; simp [opZ] at this
      | cons n os' =>
        obtain ⟨q1, q2, q3, q4, q5, q6⟩ := hq
        obtain ⟨r1, r2, r3⟩ := run_two hr
        have hv := valid_cases ho.1
        have e1 : execM m o = shiftM m o := by unfold execM; rw [if_neg (by omega), if_neg (by omega), if_neg (by omega), if_pos h4]
        have q2' : n.kind = 4 := q2
        have e2 : execM (shiftM m o) n = shiftM (shiftM m o) n := by
          unfold execM; rw [if_neg (by omega), if_neg (by omega), if_neg (by omega), if_pos q2']
        rw [e1, e2, shift_back (n := n) h (by omega) ⟨by omega, ho.2.1⟩ ⟨by omega, ho.2.2⟩ (List.eq_nil_of_length_eq_zero q1) q3 q4 q5 q6] at r3
        exact r3
    · rw [if_neg hq] at hR; exact absurd hR.symm hne
  rw [if_neg h4] at hR
  by_cases h8 : o.kind = 8
  · rw [if_pos h8] at hR
    by_cases hq : (os.headD opZ).kind = 9 ∧ (os.headD opZ).car = o.car
    · rw [if_pos hq] at hR
      subst hR
      cases os with
      | nil => have := hq.1; simp [opZ] at this
      | cons n os' =>
        obtain ⟨q1, q2⟩ := hq
        have q1' : n.kind = 9 := q1
        have q2' : n.car = o.car := q2
        obtain ⟨r1, r2, r3⟩ := run_two hr
        have hv := valid_cases ho.1
        have hcb : 1 ≤ o.car ∧ o.car ≤ 4 := by omega
        have hfit := (code_zero r1).1
        have hno : (carAt m o.car).1 = false := by
          unfold fitsM at hfit
          rw [if_neg (by omega), if_pos h8] at hfit
          simpa using hfit
        have hz := (carAt_fits h hcb).2.2 hno
        have e1 : ∀ x : Bool × Int, setCar (setCar m o.car x) o.car (false, 0) = m := fun x => by
          rw [setCar_setCar]
          unfold carAt at hno hz
          have hlt : (o.car - 1).toNat < m.cs.length := by rw [h.cl]; omega
          rw [List.getD_eq_getElem?_getD, List.getElem?_eq_getElem hlt, Option.getD_some] at hno hz
          have : m.cs.set (o.car - 1).toNat (false, 0) = m.cs := by
            have e : ((false, 0) : Bool × Int) = m.cs[(o.car - 1).toNat] := by rw [← hno, ← hz]
            rw [e, List.set_getElem_self]
          unfold setCar
          rw [this]
        have e2 : execM m o = setCar m o.car (true, if o.dir = -1 then m.wd + 3 else -3) := by
          unfold execM
          rw [if_neg (by omega), if_neg (by omega), if_neg (by omega), if_neg (by omega), if_neg (by omega), if_neg (by omega), if_neg (by omega), if_pos h8]
        have e3 : ∀ x : MachM, execM x n = setCar x o.car (false, 0) := fun x => by
          unfold execM
          rw [if_neg (by omega), if_neg (by omega), if_neg (by omega), if_neg (by omega), if_neg (by omega), if_neg (by omega), if_neg (by omega), if_neg (by omega), q2']
        rw [e3, e2, e1] at r3
        exact r3
    · rw [if_neg hq] at hR; exact absurd hR.symm hne
  · rw [if_neg h8] at hR; exact absurd hR.symm hne
set_option linter.unusedVariables false in
theorem cut_run : ∀ (ops : List OpM) (m : MachM) (i : Nat) (hi : i < ops.length), MInv m → (∀ x ∈ ops, okOp m.wd x) → runM m ops = 0 → (rulesM m ops).getD i 0 ≠ 0 → runM m (cutM ops ((rulesM m ops).getD i 0) i) = 0
  | [], _, _, hi, _, _, _, _ => by simp at hi
  | o :: os, m, 0, _, h, hok, hr, hne => by
    have : (rulesM m (o :: os)).getD 0 0 = ruleM m o (os.headD opZ) := rfl
    rw [this] at hne ⊢
    have := cut_head h hok hr hne
    unfold cutM
    simpa using this
  | o :: os, m, i + 1, hi, h, hok, hr, hne => by
    have e : (rulesM m (o :: os)).getD (i + 1) 0 = (rulesM (execM m o) os).getD i 0 := rfl
    rw [e] at hne ⊢
    obtain ⟨r1, r2⟩ := run_one hr
    have ih := cut_run os (execM m o) i (by simpa using hi) (h.exec (hok o (by simp)) r1) (fun x hx => by rw [execM_wd]; exact hok x (by simp [hx])) r2 hne
    have : cutM (o :: os) ((rulesM (execM m o) os).getD i 0) (i + 1) = o :: cutM os ((rulesM (execM m o) os).getD i 0) i := by
      unfold cutM
      rw [List.take_succ_cons, show i + 1 + cutN ((rulesM (execM m o) os).getD i 0) = (i + cutN ((rulesM (execM m o) os).getD i 0)) + 1 by omega, List.drop_succ_cons]
      rfl
    rw [this]
    exact run_cons r1 ih
theorem cutM_mem {ops : List OpM} {r : Int} {i : Nat} {x : OpM} (h : x ∈ cutM ops r i) : x ∈ ops := by
  rcases List.mem_append.1 h with h | h
  · exact List.mem_of_mem_take h
  · exact List.mem_of_mem_drop h
theorem cutM_lt {ops : List OpM} {r : Int} {i : Nat} (h : i < ops.length) : (cutM ops r i).length < ops.length := by
  unfold cutM cutN
  rw [List.length_append, List.length_take, List.length_drop]
  split <;> omega
theorem firstI_spec : ∀ (rs : List Int) (k : Nat), ((firstI rs k).1 = 0 → ∀ r ∈ rs, r = 0) ∧ ((firstI rs k).1 ≠ 0 → k ≤ (firstI rs k).2 ∧ (firstI rs k).2 < k + rs.length ∧ rs.getD ((firstI rs k).2 - k) 0 = (firstI rs k).1)
  | [], k => by simp [firstI]
  | r :: rs, k => by
    unfold firstI
    by_cases h : r = 0
    · rw [if_pos h]
      obtain ⟨h1, h2⟩ := firstI_spec rs (k + 1)
      refine ⟨fun hz x hx => ?_, fun hne => ?_⟩
      · rcases List.mem_cons.1 hx with hx | hx
        · rw [hx]; exact h
        · exact h1 hz x hx
      · obtain ⟨a, b, c⟩ := h2 hne
        refine ⟨by omega, by simp only [List.length_cons]; omega, ?_⟩
        rw [show (firstI rs (k + 1)).2 - k = ((firstI rs (k + 1)).2 - (k + 1)) + 1 by omega]
        exact c
    · rw [if_neg h]
      exact ⟨fun hz => absurd hz h, fun _ => ⟨Nat.le_refl _, by simp, by simp⟩⟩
theorem firstM_lt {w : Int} {ops : List OpM} (h : (firstM w ops).1 ≠ 0) : (firstM w ops).2 < ops.length ∧ (rulesM (newM w) ops).getD (firstM w ops).2 0 = (firstM w ops).1 := by
  have := (firstI_spec (rulesM (newM w) ops) 0).2 h
  rw [rulesM_length] at this
  unfold firstM at *
  exact ⟨by omega, by simpa using this.2.2⟩
theorem firstM_cut {w : Int} (hw : 1 ≤ w ∧ w ≤ 24) {ops : List OpM} (hok : ∀ x ∈ ops, okOp w x) (hr : runM (newM w) ops = 0) (h : (firstM w ops).1 ≠ 0) :
    runM (newM w) (cutM ops (firstM w ops).1 (firstM w ops).2) = 0 := by
  obtain ⟨h1, h2⟩ := firstM_lt h
  have := cut_run ops (newM w) (firstM w ops).2 h1 (newM_inv hw) hok hr (by rw [h2]; exact h)
  rwa [h2] at this
/-- savings, one after the other -/
def optM (w : Int) : Nat → List OpM → List OpM × List (Int × Nat)
  | 0, ops => (ops, [])
  | n + 1, ops => if (firstM w ops).1 = 0 then (ops, []) else
    let x := optM w n (cutM ops (firstM w ops).1 (firstM w ops).2)
    (x.1, firstM w ops :: x.2)
end Go.Proofs.Ytiiodfcbpmkodaa
namespace Go.Proofs.Ytiiodfcbpmkodaa
open Go.ChangeShapes Go.WideShapes Go.ChangeAt Go.RowKit
attribute [local go_sem ↓] Go.wp_at_zero Go.wp_at_succ
theorem firstI_i64 (rs : List Int) (h : ∀ x ∈ rs, I64 x) : I64 (firstI rs 0).1 := by
  by_cases h0 : (firstI rs 0).1 = 0
  · rw [h0]; unfold I64; omega
  · obtain ⟨_, h2, h3⟩ := (firstI_spec rs 0).2 h0
    rw [← h3, List.getD_eq_getElem?_getD, List.getElem?_eq_getElem (by omega)]
    exact h _ (List.getElem_mem _)
set_option linter.unusedSimpArgs false in
set_option linter.unusedVariables false in
set_option maxRecDepth 100000 in
set_option maxHeartbeats 1000000 in
theorem nextSaving_any (w : World) (S : Nat → Prop) (hS : ∀ b, S b → b < w.heap.size) (v : Value) (xs : List OpM) (h : Ops w S v xs) (n : Int) (hok : okOpsB n xs = true) (hrun : runM (newM n) xs = 0) :
    Calls Try.prog 46 #[.int .i64 n, v] w fun e w' => e = .returned (.tuple #[.agg #[.int .i64 (firstM n xs).1, .int .i64 (firstM n xs).2], .bool (decide ((firstM n xs).1 ≠ 0))]) ∧ Up w w' := by
  obtain ⟨A, c, rfl, hlc, hcm, -⟩ := h.1.shape
  have G0 := Lib.hid (((Chg.refl Nowhere w).alloc _).alloc _ : Up w ((w.alloc (.cells #[.int .i64 0, .int .i64 0] 34)).alloc (.cells #[.int .i64 0, .int .i64 0] 34)))
  have H := Lib.hid (Ops.up h G0.out)
  have HL := Lib.hid hS
  clear h hS
  have hsA : (w.alloc (.cells #[.int .i64 0, .int .i64 0] 34)).heap.size = w.heap.size + 1 := by simp
  have c1 := Lib.hid (cell_at (by simp) rfl : ((w.alloc (.cells #[.int .i64 0, .int .i64 0] 34)).alloc (.cells #[.int .i64 0, .int .i64 0] 34)).cell? ⟨w.heap.size + 1, 0, none⟩ = some (.int .i64 0))
  have c2 := Lib.hid (cell_at (by simp) rfl : ((w.alloc (.cells #[.int .i64 0, .int .i64 0] 34)).alloc (.cells #[.int .i64 0, .int .i64 0] 34)).cell? ⟨w.heap.size + 1, 1, none⟩ = some (.int .i64 0))
  have f1 : Hid (((w.alloc (.cells #[.int .i64 0, .int .i64 0] 34)).alloc (.cells #[.int .i64 0, .int .i64 0] 34)).frozen? ⟨w.heap.size + 1, 0, none⟩ = false) := Lib.hid (by have h := frozen_new (w.alloc (.cells #[.int .i64 0, .int .i64 0] 34)) #[.int .i64 0, .int .i64 0] 34 0; rw [hsA] at h; exact h)
  have f2 : Hid (((w.alloc (.cells #[.int .i64 0, .int .i64 0] 34)).alloc (.cells #[.int .i64 0, .int .i64 0] 34)).frozen? ⟨w.heap.size + 1, 1, none⟩ = false) := Lib.hid (by have h := frozen_new (w.alloc (.cells #[.int .i64 0, .int .i64 0] 34)) #[.int .i64 0, .int .i64 0] 34 1; rw [hsA] at h; exact h)
  go_enter Try.func46, Try.ntmps46
  go_wp2_with fail
  refine (rulesNs_any _ S _ xs H.out n hok hrun (w.heap.size + 1) (fun h => by have := HL.out _ h; omega) (by simp) c1.out f1.out c2.out f2.out).mono ?_
  rintro e w2 ⟨rfl, d1, d2, g1⟩
  have U := Lib.hid (Chg.new G0.out g1 (fun i hi h => by omega) : Up w w2)
  have hne : ¬ w.heap.size = w.heap.size + 1 := by omega
  have z00 : ((w.alloc (.cells #[.int .i64 0, .int .i64 0] 34)).alloc (.cells #[.int .i64 0, .int .i64 0] 34)).cell? ⟨w.heap.size, 0, none⟩ = some (.int .i64 0) := Chg.cell ((Chg.refl Nowhere (w.alloc (.cells #[.int .i64 0, .int .i64 0] 34))).alloc (.cells #[.int .i64 0, .int .i64 0] 34)) (cell_new w #[.int .i64 0, .int .i64 0] 34 0) id
  have y00 : ((w.alloc (.cells #[.int .i64 0, .int .i64 0] 34)).alloc (.cells #[.int .i64 0, .int .i64 0] 34)).frozen? ⟨w.heap.size, 0, none⟩ = false := (Chg.frozen ((Chg.refl Nowhere (w.alloc (.cells #[.int .i64 0, .int .i64 0] 34))).alloc (.cells #[.int .i64 0, .int .i64 0] 34)) (cell_new w #[.int .i64 0, .int .i64 0] 34 0) id).trans (frozen_new w #[.int .i64 0, .int .i64 0] 34 0)
  have z0 := Chg.cell g1 z00 hne
  have y0 := (Chg.frozen g1 z00 hne).trans y00
  clear z00 y00
  have z10 : ((w.alloc (.cells #[.int .i64 0, .int .i64 0] 34)).alloc (.cells #[.int .i64 0, .int .i64 0] 34)).cell? ⟨w.heap.size, 1, none⟩ = some (.int .i64 0) := Chg.cell ((Chg.refl Nowhere (w.alloc (.cells #[.int .i64 0, .int .i64 0] 34))).alloc (.cells #[.int .i64 0, .int .i64 0] 34)) (cell_new w #[.int .i64 0, .int .i64 0] 34 1) id
  have y10 : ((w.alloc (.cells #[.int .i64 0, .int .i64 0] 34)).alloc (.cells #[.int .i64 0, .int .i64 0] 34)).frozen? ⟨w.heap.size, 1, none⟩ = false := (Chg.frozen ((Chg.refl Nowhere (w.alloc (.cells #[.int .i64 0, .int .i64 0] 34))).alloc (.cells #[.int .i64 0, .int .i64 0] 34)) (cell_new w #[.int .i64 0, .int .i64 0] 34 1) id).trans (frozen_new w #[.int .i64 0, .int .i64 0] 34 1)
  have z1 := Chg.cell g1 z10 hne
  have y1 := (Chg.frozen g1 z10 hne).trans y10
  clear z10 y10
  obtain ⟨r, HR⟩ : ∃ r, Hid ((firstM n xs).1 = r) := ⟨_, Lib.hid rfl⟩
  obtain ⟨k, HK⟩ : ∃ k, Hid ((firstM n xs).2 = k) := ⟨_, Lib.hid rfl⟩
  rw [HR.out] at d1
  rw [HK.out] at d2
  clear g1 hok hrun hsA
  by_cases hr : r = 0
  · subst hr
    go_wp2
    go_region
    go_wp2
    all_goals exact bodyPost_ret (v := .tuple #[.agg #[.int .i64 0, .int .i64 k], .bool false]) (by rw [results_cell_tmp rfl]; go_simp) rfl ⟨by rw [HR.out, HK.out]; rfl, by repeat (first | exact U.out | refine Chg.drew ?_ | refine Chg.setCell ?_ (.inr (by simp)) _)⟩
  · have t1 : (r == 0) = false := by simpa using hr
    have t2 : (r != 0) = true := by simpa using hr
    go_wp2
    go_region
    go_wp2
    all_goals exact bodyPost_ret (v := .tuple #[.agg #[.int .i64 r, .int .i64 k], .bool true]) (by rw [results_cell_tmp rfl]; go_simp) rfl ⟨by rw [HR.out, HK.out, decide_eq_true hr], by repeat (first | exact U.out | refine Chg.drew ?_ | refine Chg.setCell ?_ (.inr (by simp)) _)⟩
set_option linter.unusedSimpArgs false in
set_option linter.unusedVariables false in
set_option maxRecDepth 100000 in
set_option maxHeartbeats 1000000 in
theorem l25First_any (w : World) (S : Nat → Prop) (v : Value) (L : List Int) (h : Ints w S v L) :
    Calls Try.prog 45 #[v] w fun e w' => e = .returned (.tuple #[.agg #[.int .i64 (firstI L 0).1, .int .i64 (firstI L 0).2], .bool (decide ((firstI L 0).1 ≠ 0))]) ∧ Up w w' := by
  obtain ⟨A, c, rfl, hlc, hcm, -⟩ := h.shape
  have H := Lib.hid h
  clear h
  go_enter Try.func45, Try.ntmps45
  go_wp2
  go_loopw [4] (fun i wr => ∃ j : Nat, j ≤ L.length ∧ i = .int .i64 j ∧ wr = (w.alloc (.cells #[.int .i64 0, .int .i64 0] 34)) ∧ Hid (∀ i, i < j → L.getD i 0 = 0)) (fun i _ => L.length - (intOf i).toNat)
  case atStart => exact ⟨0, by omega, rfl, by first | rfl | trivial, fun i hi => by omega⟩
  case round =>
    obtain ⟨j, hj, rfl, rfl, hp⟩ := hrel
    have z0 : (w.alloc (.cells #[.int .i64 0, .int .i64 0] 34)).cell? ⟨w.heap.size, 0, none⟩ = some (.int .i64 0) := cell_new _ _ _ _
    have y0 : (w.alloc (.cells #[.int .i64 0, .int .i64 0] 34)).frozen? ⟨w.heap.size, 0, none⟩ = false := frozen_new _ _ _ _
    have z1 : (w.alloc (.cells #[.int .i64 0, .int .i64 0] 34)).cell? ⟨w.heap.size, 1, none⟩ = some (.int .i64 0) := cell_new _ _ _ _
    have y1 : (w.alloc (.cells #[.int .i64 0, .int .i64 0] 34)).frozen? ⟨w.heap.size, 1, none⟩ = false := frozen_new _ _ _ _
    by_cases hlt : j < L.length
    rotate_left
    · have HF := Lib.hid (firstI_none L 0 (fun i hi => hp.out i (by omega)))
      go_wp2
      exact bodyPost_ret (v := .tuple #[.agg #[.int .i64 0, .int .i64 0], .bool false]) (by rw [results_cell_tmp rfl]; go_simp) rfl ⟨by rw [HF.out]; first | rfl | (show _ = Ending.returned (.tuple #[.agg #[.int .i64 _, .int .i64 _], .bool (decide (_ ≠ 0))]); rw [decide_eq_true hx]), (Chg.refl Nowhere w).alloc _⟩
    obtain ⟨gb, go, rfl, -, hc⟩ := (H.out.up ((Chg.refl Nowhere w).alloc (.cells #[.int .i64 0, .int .i64 0] 34))).ixm hlt
    have f1 := hc j hlt
    rw [ixm_eq hlt] at f1
    have HG : Hid (L.getD j 0 = L[j]) := Lib.hid (by rw [List.getD_eq_getElem?_getD, List.getElem?_eq_getElem hlt]; rfl)
    obtain ⟨x, HX⟩ : ∃ x, Hid (L[j] = x) := ⟨L[j], Lib.hid rfl⟩
    rw [HX.out] at f1
    clear hc
    by_cases hx : x = 0
    · subst hx
      have HP : Hid (∀ i, i < j + 1 → L.getD i 0 = 0) := Lib.hid (fun i hi => by
        by_cases e : i = j
        · subst e; rw [HG.out, HX.out]
        · exact hp.out i (by omega))
      go_wp2
      go_roundw
      case rel => exact ⟨j + 1, by omega, by go_num, by first | rfl | trivial, HP.out⟩
      case measure => first | (simp [intOf]; done) | (simp [intOf]; omega)
    have t1 : (x == 0) = false := by simpa using hx
    have t2 : (x != 0) = true := by simpa using hx
    have HF := Lib.hid (firstI_at L 0 j hlt hp.out (by rw [HG.out, HX.out]; exact hx))
    rw [HG.out, HX.out, Nat.zero_add] at HF
    go_wp2
    exact bodyPost_ret (v := .tuple #[.agg #[.int .i64 x, .int .i64 j], .bool true]) (by rw [results_cell_tmp rfl]; go_simp) rfl ⟨by rw [HF.out]; first | rfl | (show _ = Ending.returned (.tuple #[.agg #[.int .i64 _, .int .i64 _], .bool (decide (_ ≠ 0))]); rw [decide_eq_true hx]), (Chg.refl Nowhere w).alloc _⟩
set_option linter.unusedSimpArgs false in
set_option linter.unusedVariables false in
set_option maxRecDepth 100000 in
set_option maxHeartbeats 1000000 in
theorem sIsOptimalT (w : World) (n : Int) (S : Nat → Prop) (v : Value) (xs : List OpM) (h : Ops w S v xs) :
    Calls Try.prog 15 #[.int .i64 n, v] w fun e w' => e = .returned (.tuple #[.bool (optimalB n xs), .int .i64 (optCode n xs)]) ∧ Up w w' := by
  obtain ⟨cd, HCD⟩ : ∃ cd, Hid (optCode n xs = cd) := ⟨_, Lib.hid rfl⟩
  obtain ⟨A, c, rfl, hlc, hcm, -⟩ := h.1.shape
  have H := Lib.hid (h.mono (T := fun b => b < w.heap.size) fun _ h _ => h)
  clear h
  go_enter Try.func15, Try.ntmps15
  go_wp2_with fail
  refine (l25Rules_any _ _ _ xs H.out n).mono ?_
  rintro e w1 ⟨v1, rfl, k1, g1⟩
  obtain ⟨A1, c1, rfl, hl1, hc1, -⟩ := k1.shape
  have K1 := Lib.hid k1
  clear k1
  have G1 := Lib.hid g1
  clear g1
  rw [HCD.out]
  by_cases hcd : cd = 0
  rotate_left
  · have t1 : (cd == 0) = false := by simpa using hcd
    have t2 : (cd != 0) = true := by simpa using hcd
    have HV := Lib.hid (show optimalB n xs = false by unfold optimalB; rw [HCD.out, if_neg hcd])
    go_wp2
    go_ret2
    exact ⟨by rw [HV.out, HCD.out]; rfl, G1.out⟩
  subst hcd
  obtain ⟨hok, hrun⟩ := opt_ok HCD.out
  have HOK := Lib.hid hok
  have HRUN := Lib.hid hrun
  clear hok hrun
  have HV := Lib.hid (show optimalB n xs = decide ((firstM n xs).1 = 0) by unfold optimalB; rw [HCD.out, if_pos rfl])
  have HRO := Lib.hid (rulesOut_ok HCD.out)
  go_wp2_with fail
  refine (l25First_any _ _ _ (rulesOut n xs) K1.out).mono ?_
  rintro e w2 ⟨rfl, g2⟩
  rw [HRO.out, show firstI (rulesM (newM n) xs) 0 = firstM n xs from rfl]
  have G2 := Lib.hid (Chg.trans G1.out g2)
  clear g2
  obtain ⟨r, HR⟩ : ∃ r, Hid ((firstM n xs).1 = r) := ⟨_, Lib.hid rfl⟩
  obtain ⟨k, HK⟩ : ∃ k, Hid ((firstM n xs).2 = k) := ⟨_, Lib.hid rfl⟩
  rw [HR.out, HK.out]
  rw [HR.out] at HV
  by_cases hr : r = 0
  · have t3 : decide (r ≠ 0) = false := by simpa using hr
    rw [t3]
    have HV2 : Hid (optimalB n xs = true) := Lib.hid (by rw [HV.out]; exact decide_eq_true hr)
    clear t3
    go_wp2
    go_ret2
    exact ⟨by rw [HV2.out, HCD.out]; rfl, G2.out.alloc _⟩
  · have t3 : decide (r ≠ 0) = true := by simpa using hr
    rw [t3]
    have HV2 : Hid (optimalB n xs = false) := Lib.hid (by rw [HV.out]; exact decide_eq_false hr)
    clear t3
    go_wp2
    go_ret2
    exact ⟨by rw [HV2.out, HCD.out]; rfl, G2.out.alloc _⟩
set_option linter.unusedSimpArgs false in
set_option linter.unusedVariables false in
set_option maxRecDepth 100000 in
set_option maxHeartbeats 1000000 in
theorem IsOptimalT (w : World) (n : Int) (S : Nat → Prop) (v : Value) (xs : List OpM) (h : Ops w S v xs) :
    Calls Try.prog 16 #[.int .i64 n, v] w fun e w' => e = .returned (.tuple #[.bool (optimalB n xs), .int .i64 (optCode n xs)]) ∧ Up w w' := by
  obtain ⟨cd, HCD⟩ : ∃ cd, Hid (optCode n xs = cd) := ⟨_, Lib.hid rfl⟩
  obtain ⟨A, c, rfl, hlc, hcm, -⟩ := h.1.shape
  have H := Lib.hid (h.mono (T := fun b => b < w.heap.size) fun _ h _ => h)
  clear h
  go_enter Try.func16, Try.ntmps16
  go_wp2_with fail
  refine (runCode_any _ _ _ xs H.out n).mono ?_
  rintro e w1 ⟨rfl, g1⟩
  have G1 := Lib.hid g1
  clear g1
  rw [HCD.out]
  by_cases hcd : cd = 0
  rotate_left
  · have t1 : (cd == 0) = false := by simpa using hcd
    have t2 : (cd != 0) = true := by simpa using hcd
    have HV := Lib.hid (show optimalB n xs = false by unfold optimalB; rw [HCD.out, if_neg hcd])
    go_wp2
    go_ret2
    exact ⟨by rw [HV.out, HCD.out]; rfl, G1.out⟩
  subst hcd
  obtain ⟨hok, hrun⟩ := opt_ok HCD.out
  have HOK := Lib.hid hok
  have HRUN := Lib.hid hrun
  clear hok hrun
  have HV := Lib.hid (show optimalB n xs = decide ((firstM n xs).1 = 0) by unfold optimalB; rw [HCD.out, if_pos rfl])
  go_wp2_with fail
  refine (nextSaving_any _ (fun b => b < w1.heap.size) (fun _ h => h) _ xs ((Ops.up H.out G1.out).mono fun _ h _ => h) n HOK.out HRUN.out).mono ?_
  rintro e w2 ⟨rfl, g2⟩
  have G2 := Lib.hid (Chg.trans G1.out g2)
  clear g2
  obtain ⟨r, HR⟩ : ∃ r, Hid ((firstM n xs).1 = r) := ⟨_, Lib.hid rfl⟩
  obtain ⟨k, HK⟩ : ∃ k, Hid ((firstM n xs).2 = k) := ⟨_, Lib.hid rfl⟩
  rw [HR.out, HK.out]
  rw [HR.out] at HV
  by_cases hr : r = 0
  · have t3 : decide (r ≠ 0) = false := by simpa using hr
    rw [t3]
    have HV2 : Hid (optimalB n xs = true) := Lib.hid (by rw [HV.out]; exact decide_eq_true hr)
    clear t3
    go_wp2
    go_ret2
    exact ⟨by rw [HV2.out, HCD.out]; rfl, G2.out.alloc _⟩
  · have t3 : decide (r ≠ 0) = true := by simpa using hr
    rw [t3]
    have HV2 : Hid (optimalB n xs = false) := Lib.hid (by rw [HV.out]; exact decide_eq_false hr)
    clear t3
    go_wp2
    go_ret2
    exact ⟨by rw [HV2.out, HCD.out]; rfl, G2.out.alloc _⟩
end Go.Proofs.Ytiiodfcbpmkodaa
