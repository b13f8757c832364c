/- The law for regions that draw their order, over a list of what is known of each operation's value; one operation may change the blocks of a set. No condition. -/
import Derived.Test.YtiiodfcbpmkodaaGreatRg
set_option linter.unusedSimpArgs false
set_option linter.unusedVariables false
namespace Go.Proofs.YtiiodfcbpmkodaaGreat
abbrev VP := Value → World → Prop
/-- the value is known -/
def kon (c : Value) : VP := fun v _ => v = c
def vAt (Vs : List VP) (k : Nat) : VP := Vs.getD k (fun _ _ => True)
/-- what holds of a value when the world has grown, or when blocks of T have changed -/
def keeps (T : Nat → Prop) (V : VP) : Prop := ∀ v w w', V v w → Chg T w w' → V v w'
theorem keeps_kon {T : Nat → Prop} (c : Value) : keeps T (kon c) := fun _ _ _ h _ => h
def allKeep : List VP → Prop
  | [] => True
  | V :: l => keeps Nowhere V ∧ allKeep l
def allBut (T : Nat → Prop) (e : Nat) : Nat → List VP → Prop
  | _, [] => True
  | k, V :: l => (k = e ∨ keeps T V) ∧ allBut T e (k + 1) l
theorem allKeep_at : ∀ {Vs : List VP} (k : Nat), k < Vs.length → allKeep Vs → keeps Nowhere (vAt Vs k)
  | [], _, h, _ => by simp at h
  | _ :: _, 0, _, h => h.1
  | _ :: l, k + 1, hk, h => allKeep_at (Vs := l) k (by simpa using hk) h.2
theorem allBut_at {T : Nat → Prop} {e : Nat} : ∀ {Vs : List VP} (i k : Nat), k < Vs.length → i + k ≠ e → allBut T e i Vs → keeps T (vAt Vs k)
  | [], _, _, h, _, _ => by simp at h
  | _ :: _, i, 0, _, hn, h => h.1.resolve_left (by simpa using hn)
  | _ :: l, i, k + 1, hk, hn, h => allBut_at (Vs := l) (i + 1) k (by simpa using hk) (by omega) h.2
theorem allBut_none : ∀ {e : Nat} {Vs : List VP} (i : Nat), allKeep Vs → allBut Nowhere e i Vs
  | _, [], _, _ => trivial
  | _, _ :: _, i, h => ⟨.inr h.1, allBut_none (i + 1) h.2⟩
def rgR (T : Nat → Prop) (e k : Nat) (w w' : World) : Prop := if k = e then Chg T w w' else Up w w'
theorem rg_up {T : Nat → Prop} {e k : Nat} {w w' : World} (h : Up w w') : rgR T e k w w' := by
  unfold rgR; split
  · exact Chg.of_up h
  · exact h
theorem rg_eff {T : Nat → Prop} {e : Nat} {w w' : World} (h : Chg T w w') : rgR T e e w w' := by unfold rgR; rw [if_pos rfl]; exact h
/-- a slot's value: the region's own writes first -/
def lookE (t : Nat) : List (Nat × Value) → Option Value
  | [] => none
  | (s, v) :: l => match Nat.beq s t with
    | true => some v
    | false => lookE t l
def evalE (ρ : Operand → Value) (env : List (Nat × Value)) : Operand → Value
  | .tmp t => match lookE t env with
    | some v => v
    | none => ρ (.tmp t)
  | x => ρ x
def valL (j : Nat) (vs : List (Nat × Value)) : Value := match lookE j vs with
  | some v => v
  | none => undef
def needsL (Vs : List VP) (vs : List (Nat × Value)) (w : World) : List Nat → Prop
  | [] => True
  | j :: l => vAt Vs j (valL j vs) w ∧ needsL Vs vs w l
def allL (Vs : List VP) : List (Nat × Value) → World → Prop
  | [], _ => True
  | (k, v) :: l, w => vAt Vs k v w ∧ allL Vs l w
section
variable {P : Program}
/-- the walk; no operation stands under a guard; of each operation: its number, its slot, what it waits for -/
def walkL (P : Program) (T : Nat → Prop) (e : Nat) (Vs : List VP) (w0 : World) (ρ : Operand → Value) (Q : List (Nat × Value) → Act → Prop) : List (Nat × Value) → List (Nat × Value) → List (Nat × Nat × List Nat) → List Oper → Act → Prop
  | env, vs, (k, d, ws) :: wss, o :: rest, a => (∀ w, Chg T w0 w → (k = e → Up w0 w) → needsL Vs vs w ws → growUpon P (fun v w' => rgR T e k w w' ∧ vAt Vs k v w') ((execOp (evalE ρ env) o).run P w)) ∧
      ∀ v, walkL P T e Vs w0 ρ Q ((d, v) :: env) ((k, v) :: vs) wss rest (a.put o.dst v)
  | _, vs, _, _, a => Q vs a
def specOf : Nat → List Oper → List (Nat × Nat × List Nat)
  | _, [] => []
  | k, o :: l => (k, o.dst.getD 0, waits o) :: specOf (k + 1) l
theorem needsL_of {Vs : List VP} {vs : List (Nat × Value)} {w : World} {vl : List Value} : ∀ {ws : List Nat}, (∀ j ∈ ws, valL j vs = vl.getD j undef) → needs (vAt Vs) vl w ws → needsL Vs vs w ws
  | [], _, _ => trivial
  | j :: l, h, hn => ⟨by rw [h j (by simp)]; exact hn j (by simp), needsL_of (fun i hi => h i (by simp [hi])) fun i hi => hn i (by simp [hi])⟩
theorem look_other {t s : Nat} {v : Value} {l : List (Nat × Value)} (h : s ≠ t) : lookE t ((s, v) :: l) = lookE t l := by
  have : Nat.beq s t = false := by
    rcases hh : Nat.beq s t with _ | _
    · rfl
    · exact absurd (Nat.eq_of_beq_eq_true hh) h
  show (match Nat.beq s t with | true => some v | false => lookE t l) = _
  rw [this]
theorem look_same {t : Nat} {v : Value} {l : List (Nat × Value)} : lookE t ((t, v) :: l) = some v := by
  have : Nat.beq t t = true := Nat.beq_refl t
  show (match Nat.beq t t with | true => some v | false => lookE t l) = _
  rw [this]
theorem valL_other {t s : Nat} {v : Value} {l : List (Nat × Value)} (h : s ≠ t) : valL t ((s, v) :: l) = valL t l := by unfold valL; rw [look_other h]
theorem valL_same {t : Nat} {v : Value} {l : List (Nat × Value)} : valL t ((t, v) :: l) = v := by unfold valL; rw [look_same]
theorem evalE_other {ρ : Operand → Value} {t s : Nat} {v : Value} {l : List (Nat × Value)} (h : s ≠ t) : evalE ρ ((s, v) :: l) (.tmp t) = evalE ρ l (.tmp t) := by
  show (match lookE t ((s, v) :: l) with | some v => v | none => ρ (.tmp t)) = _
  rw [look_other h]
  rfl
theorem evalE_same {ρ : Operand → Value} {t : Nat} {v : Value} {l : List (Nat × Value)} : evalE ρ ((t, v) :: l) (.tmp t) = v := by
  show (match lookE t ((t, v) :: l) with | some v => v | none => ρ (.tmp t)) = _
  rw [look_same]
theorem walk_of {ops : Array Oper} {T : Nat → Prop} {e : Nat} {Vs : List VP} {w0 : World} {a0 : Act} {Q : List (Nat × Value) → Act → Prop} {Q' : List Value → Act → Prop} {n : Nat} (hQ : ∀ (vs : List (Nat × Value)) (vl : List Value) a, vl.length = n → (∀ x ∈ vs, x.1 < n ∧ x.2 = vl.getD x.1 undef) → Q vs a → Q' vl a) :
    ∀ (l : List Oper) (wss : List (Nat × Nat × List Nat)) (env vs : List (Nat × Value)) (vl : List Value) (k : Nat) (a : Act), vl.length = k → k + l.length = n → specOf k l = wss → (∀ o ∈ l, o.guard = none ∧ (∀ cs b, o.op ≠ .select cs b) ∧ ∃ d, o.dst = some d ∧ d < a0.tmps.size) →
      (∀ i o, l[i]? = some o → ∀ j ∈ waits o, j < k + i) → a.tmps.size = a0.tmps.size → (∀ x, evalE a0.eval env x = a.eval x) → (∀ j, j < k → valL j vs = vl.getD j undef) → (∀ x ∈ vs, x.1 < k ∧ x.2 = vl.getD x.1 undef) →
      walkL P T e Vs w0 a0.eval Q env vs wss l a → rgWalk P ops (Chg T w0) (Up w0) e (rgR T e) (vAt Vs) Q' vl k l a
  | [], wss, env, vs, vl, k, a, hk, hn, hw, ho, hj, hs, hE, hv, hv2, h => by
    obtain rfl : wss = [] := hw.symm
    obtain rfl : k = n := by simpa using hn
    exact hQ vs vl a hk hv2 h
  | o :: rest, wss, env, vs, vl, k, a, hk, hn, hw, ho, hj, hs, hE, hv, hv2, h => by
    obtain rfl : wss = (k, o.dst.getD 0, waits o) :: specOf (k + 1) rest := hw.symm
    obtain ⟨hg, hsel, d, hd, hdl⟩ := ho o (by simp)
    have hsn : ∀ (v : Value) (j : Nat), j < k → (vl ++ [v]).getD j undef = vl.getD j undef := fun v j hj => by
      rw [List.getD_eq_getElem?_getD, List.getD_eq_getElem?_getD, List.getElem?_append_left (by omega)]
    refine ⟨fun w hc hup hnd => ?_, fun v => ?_⟩
    · have hwt : Region.wanted o (yielded ops a.tmps) = true := by simp [Region.wanted, hg]
      rw [if_pos hwt]
      have := h.1 w hc hup (needsL_of (fun j hj' => hv j (by have := hj 0 o (by simp) j hj'; omega)) hnd)
      unfold grow
      rwa [execOp_congr (ρ := a.eval) (ρ' := evalE a0.eval env) o hsel fun x _ => (hE x).symm]
    · refine walk_of hQ rest _ ((o.dst.getD 0, v) :: env) ((k, v) :: vs) (vl ++ [v]) (k + 1) _ (by simp [hk]) (by simp at hn; omega) rfl (fun o' ho' => ho o' (by simp [ho'])) (fun i o' hi j hj' => by
          have := hj (i + 1) o' (by simpa using hi) j hj'; omega) ?_ ?_ ?_ ?_ (h.2 v)
      · rw [hd]; simp [Act.put, hs]
      · intro x
        rw [hd]
        simp only [Option.getD_some]
        cases x with
        | tmp t =>
          by_cases hdt : d = t
          · subst hdt
            rw [evalE_same]
            simp [Act.put, Act.eval, hs, hdl]
          · rw [evalE_other hdt, Act.eval_put (fun d' hd' he => by injection hd' with hd'; injection he with he; exact hdt (hd'.trans he.symm))]
            exact hE (.tmp t)
        | const c => exact hE (.const c)
        | global c => exact hE (.global c)
        | func c => exact hE (.func c)
      · intro j hj
        by_cases hjk : j = k
        · subst hjk
          rw [valL_same]
          simp [← hk]
        · rw [valL_other (Ne.symm hjk), hsn v j (by omega)]
          exact hv j (by omega)
      · intro x hx
        rcases List.mem_cons.1 hx with rfl | hx
        · exact ⟨by simp, by simp [← hk]⟩
        · obtain ⟨h1, h2⟩ := hv2 x hx
          exact ⟨by omega, by rw [hsn v _ h1]; exact h2⟩
/-- what is asked of the text: no guards, slots within the frame -/
def txtB (l : List Oper) (wss : List (Nat × Nat × List Nat)) (sz : Nat) : Bool := l.all (fun o => o.guard.isNone && (match o.dst with | some d => decide (d < sz) | none => false)) && decide (specOf 0 l = wss)
theorem allL_of {Vs : List VP} {w : World} : ∀ {l : List (Nat × Value)}, (∀ x ∈ l, vAt Vs x.1 x.2 w) → allL Vs l w
  | [], _ => trivial
  | x :: l, h => ⟨h x (by simp), allL_of fun y hy => h y (by simp [hy])⟩
theorem wp_region_l {id : Nat} {Q : Exit → Act → World → Prop} {a : Act} {w : World} {l : List Oper} (sz : Nat) (T : Nat → Prop) (e : Nat) (Vs : List VP) (wss : List (Nat × Nat × List Nat))
    (hm : P.follows .mixedOrders = true) (hB : rgB l.toArray Vs.length = true) (hX : txtB (l.take Vs.length) wss sz = true) (hsz : a.tmps.size = sz) (hK : allKeep Vs) (hT : allBut T e 0 Vs)
    (hwalk : walkL P T e Vs w a.eval (fun vs a' => ∀ w', Chg T w w' → allL Vs vs w' → wpList P l.toArray Q (l.drop Vs.length) a' w') [] [] wss (l.take Vs.length) a) :
    (Code.region id l.toArray true).wp P Q a w := by
  have R := rgText hB
  have hlen : Vs.length < l.length := by have := R.lt; simpa using this
  unfold txtB at hX
  simp only [Bool.and_eq_true, decide_eq_true_eq] at hX
  obtain ⟨h1, h2⟩ := hX
  have hget : ∀ i o, (l.take Vs.length)[i]? = some o → i < Vs.length ∧ l.toArray[i]? = some o := fun i o hi => by
    have := (List.getElem?_eq_some_iff.1 hi).1
    simp at this
    refine ⟨by omega, ?_⟩
    rw [List.getElem?_take, if_pos (by omega)] at hi
    simpa using hi
  refine wp_region_rg Vs.length e (Chg T w) (Up w) (rgR T e) (vAt Vs) hm hB
    (fun k w1 w2 _ h h2 => by
      unfold rgR at h2
      split at h2
      · exact Chg.trans h h2
      · exact Chg.trans h (Chg.of_up h2))
    (fun j k v w1 w2 hj hk hjk hv _ h2 => by
      unfold rgR at h2
      split at h2
      · rename_i he
        exact allBut_at 0 j hj (by omega) hT v w1 w2 hv h2
      · exact allKeep_at j hj hK v w1 w2 hv h2)
    (fun k w1 w2 _ hne h h2 => by
      unfold rgR at h2
      rw [if_neg hne] at h2
      exact Chg.trans h h2)
    ((Chg.refl _ _).drew) ((Chg.refl _ _).drew) ?_
  refine walk_of (n := Vs.length) (fun vs vl a' hl hv h w' hc hn => ?_) (l.take Vs.length) wss [] [] [] 0 a rfl (by simp; omega) h2 (fun o ho => ?_) (fun i o hi j hj => ?_) rfl (fun x => by cases x <;> rfl) (fun j hj => by omega) (fun x hx => by cases hx) hwalk
  · refine h w' hc ?_
    refine allL_of fun x hx => ?_
    obtain ⟨h3, h4⟩ := hv x hx
    rw [h4]
    exact hn x.1 (List.mem_range.2 h3)
  · have h3 := List.all_eq_true.1 h1 o ho
    simp only [Bool.and_eq_true] at h3
    obtain ⟨i, hi⟩ := List.getElem?_of_mem ho
    refine ⟨by simpa using h3.1, fun cs b => Region.noSelect_spec R.sel i o cs b (hget i o hi).2, ?_⟩
    cases hd : o.dst with
    | none => simp [hd] at h3
    | some d => exact ⟨d, rfl, by simpa [hd, hsz] using h3.2⟩
  · obtain ⟨hi', ho⟩ := hget i o hi
    obtain ⟨o', d, ho', _, hw, _⟩ := R.op i hi'
    obtain rfl : o' = o := Option.some.inj (ho'.symm.trans ho)
    rw [Nat.zero_add]
    exact hw j hj
theorem grow_ok {o : Oper} {ρ : Operand → Value} {w w' : World} {v : Value} {T : Nat → Prop} {e k : Nat} {V : VP} (h : (execOp ρ o).run P w = .ok (.value v) w') (hR : rgR T e k w w') (hV : V v w') : growUpon P (fun v w' => rgR T e k w w' ∧ V v w') ((execOp ρ o).run P w) := by
  rw [h]
  exact ⟨hR, hV⟩
theorem grow_same {o : Oper} {ρ : Operand → Value} {w : World} {v : Value} {T : Nat → Prop} {e k : Nat} {V : VP} (h : (execOp ρ o).run P w = .ok (.value v) w) (hV : V v w) : growUpon P (fun v w' => rgR T e k w w' ∧ V v w') ((execOp ρ o).run P w) :=
  grow_ok h (rg_up (Chg.refl _ _)) hV
theorem grow_ex {o : Oper} {ρ : Operand → Value} {w : World} {T : Nat → Prop} {e k : Nat} {V : VP} {A : Value → World → Prop} (h : ∃ v' w', (execOp ρ o).run P w = .ok (.value v') w' ∧ A v' w') (hk : ∀ v' w', A v' w' → rgR T e k w w' ∧ V v' w') : growUpon P (fun v w' => rgR T e k w w' ∧ V v w') ((execOp ρ o).run P w) := by
  obtain ⟨v', w', hr, ha⟩ := h
  rw [hr]
  exact hk _ _ ha
theorem grow_call {o : Oper} {ρ : Operand → Value} {w : World} {f : FuncId} {args : Array Value} {T : Nat → Prop} {e k : Nat} {V : VP} (h : (execOp ρ o).run P w = .ok (.enter f args) w) (hc : Calls P f args w fun en w' => ∃ v, en = .returned v ∧ rgR T e k w w' ∧ V v w') : growUpon P (fun v w' => rgR T e k w w' ∧ V v w') ((execOp ρ o).run P w) := by
  rw [h]
  exact hc
/-- the operations -/
theorem x_move {ρ : Operand → Value} {o : Oper} {w : World} {v : Value} (x : Operand) (ho : o.op = .move x) (hx : ρ x = v) : (execOp ρ o).run P w = .ok (.value v) w := by
  unfold execOp; rw [ho]; simp [hx]
theorem x_nil {ρ : Operand → Value} {o : Oper} {w : World} {p : Addr} (x : Operand) (ho : o.op = .nilCheck x) (hx : ρ x = .pointer (some p)) : (execOp ρ o).run P w = .ok (.value (.pointer (some p))) w := by
  unfold execOp; rw [ho]; simp [hx]
theorem x_load {ρ : Operand → Value} {o : Oper} {w : World} {q v : Value} (t : TypeId) (x : Operand) (ho : o.op = .load t x) (hx : ρ x = q) (h : (Instr.loadAt t q).run P w = .ok v w) : (execOp ρ o).run P w = .ok (.value v) w := by
  unfold execOp; rw [ho]; simp [hx, h, Result.andThen]
theorem x_field {ρ : Operand → Value} {o : Oper} {w : World} {q v : Value} (t : TypeId) (x : Operand) (f : Nat) (ho : o.op = .fieldAddr t x f) (hx : ρ x = q) (h : (Instr.fieldAt t q f).run P w = .ok v w) : (execOp ρ o).run P w = .ok (.value v) w := by
  unfold execOp; rw [ho]; simp [hx, h, Result.andThen]
theorem x_len {ρ : Operand → Value} {o : Oper} {w : World} {A : Option Addr} {n c : Nat} (t el : TypeId) (x : Operand) (hu : P.underlying t = some (.slice el)) (ho : o.op = .call { callee := .builtin .len, args := #[x], argTypes := #[t] }) (hx : ρ x = .slice A n c) : (execOp ρ o).run P w = .ok (.value (.int .i64 n)) w := by
  have h : (Builtin.len_ #[t] o.type #[Value.slice A n c]).run P w = .ok (.int .i64 n) w := by
    unfold Builtin.len_
    simp [underlying, hu, goInt, Sem.run_bind, Result.andThen]
  unfold execOp; rw [ho]; simp [go_sem, resolve, invoke, builtin, hx, h, Result.andThen]
theorem x_call {ρ : Operand → Value} {o : Oper} {w : World} {f : FuncId} {fn : Func} {args : Array Value} (xs : Array Operand) (ts : Array TypeId) (hfn : P.funcs[f]? = some fn) (hn : (fn.name == "runtime.NumGoroutine") = false) (hb : fn.body.isNone = false)
    (ho : o.op = .call { callee := .value (.func f), args := xs, argTypes := ts }) (hf : ρ (.func f) = .func (.func f) #[] #[]) (hx : xs.map ρ = args) : (execOp ρ o).run P w = .ok (.enter f args) w := by
  unfold execOp
  rw [ho]
  have h1 : ¬ fn.name = "runtime.NumGoroutine" := by simpa using hn
  have h2 : ¬ fn.body = none := fun e => by rw [e] at hb; cases hb
  simp [go_sem, resolve, invoke, Deferred.ofValue, hf, hx, callFunc, hfn, h1, h2, Result.andThen]
end
end Go.Proofs.YtiiodfcbpmkodaaGreat
