/- Regions that draw their order: every operation is asked alone, under what the operations that it waits for have laid down; one walk serves every order. No condition. -/
import Derived.Test.YtiiodfcbpmkodaaGreatUpR
import Derived.StillTail
set_option linter.unusedSimpArgs false
set_option linter.unusedVariables false
namespace Go.Proofs.YtiiodfcbpmkodaaGreat
section
variable {P : Program} {ops : Array Oper}
/-- what one operation must do, taken alone: T is said of the value and the world behind it -/
def growUpon (P : Program) (T : Value → World → Prop) : Result Next → Prop
  | .ok (.value u) w' => T u w'
  | .ok .skip w' => T undef w'
  | .ok (.enter f args) w' => Calls P f args w' fun e w'' => ∃ v, e = .returned v ∧ T v w''
  | _ => False
def grow (P : Program) (o : Oper) (a : Act) (w : World) (T : Value → World → Prop) : Prop := growUpon P T ((execOp a.eval o).run P w)
theorem wp_of_grow {o : Oper} {a b : Act} {w : World} {T : Value → World → Prop} {K : Act → World → Prop} {Q : Exit → Act → World → Prop}
    (h : grow P o a w T) (he : execOp b.eval o = execOp a.eval o) (hK : ∀ v w', T v w' → K (b.put o.dst v) w') : o.wp P b w K Q := by
  unfold grow at h
  unfold Oper.wp
  rw [he]
  generalize (execOp a.eval o).run P w = r at *
  cases r with
  | ok n w' =>
    cases n <;> simp only [growUpon] at h <;> simp only [Oper.upon]
    case value u => exact hK _ _ h
    case skip => exact hK _ _ h
    case enter f args => exact h.mono fun e w'' ⟨v, he, hv⟩ => by subst he; exact hK _ _ hv
  | halt x w' => simp only [growUpon] at h
/-- the operations that one waits for -/
def waits (o : Oper) : List Nat := o.after.toList.filterMap fun e => if Region.binds .any e then some e.on else none
def dstOf (ops : Array Oper) (j : Nat) : Option Tmp := (ops[j]?).bind (·.dst)
/-- what is known of the operations that one waits for; vs: the values so far -/
def needs (V : Nat → Value → World → Prop) (vs : List Value) (w : World) (l : List Nat) : Prop := ∀ j ∈ l, V j (vs.getD j undef) w
/-- the walk in the text's order -/
def rgWalk (P : Program) (ops : Array Oper) (C B : World → Prop) (e : Nat) (R : Nat → World → World → Prop) (V : Nat → Value → World → Prop) (Q : List Value → Act → Prop) : List Value → Nat → List Oper → Act → Prop
  | vs, _, [], a => Q vs a
  | vs, k, o :: rest, a => (∀ w, C w → (k = e → B w) → needs V vs w (waits o) → if Region.wanted o (yielded ops a.tmps) = true then grow P o a w (fun v w' => R k w w' ∧ V k v w') else V k undef w) ∧
      ∀ v, rgWalk P ops C B e R V Q (vs ++ [v]) (k + 1) rest (a.put o.dst v)
/-- the frame when some operations have come up -/
def putsX (X : Nat → Bool) (val : Nat → Value) : Nat → List Oper → Act → Act
  | _, [], a => a
  | k, o :: rest, a => putsX X val (k + 1) rest (if X k then a.put o.dst (val k) else a)
theorem rgWalk_at {C B : World → Prop} {e : Nat} {R : Nat → World → World → Prop} {V : Nat → Value → World → Prop} {Q : List Value → Act → Prop} (val : Nat → Value) : ∀ (l : List Oper) (k : Nat) (a : Act), rgWalk P ops C B e R V Q ((List.range k).map val) k l a →
    ∀ i o, k ≤ i → l[i - k]? = some o → ∀ w, C w → (i = e → B w) → needs V ((List.range i).map val) w (waits o) →
      if Region.wanted o (yielded ops (putsX (fun j => decide (j < i)) val k l a).tmps) = true then grow P o (putsX (fun j => decide (j < i)) val k l a) w (fun v w' => R i w w' ∧ V i v w') else V i undef w
  | [], _, _, _ => fun i o _ hi => by simp at hi
  | o0 :: rest, k, a, h => fun i o hk hi => by
    have none : ∀ (l : List Oper) (k : Nat) (a : Act), i ≤ k → putsX (fun j => decide (j < i)) val k l a = a := by
      intro l
      induction l with
      | nil => intros; rfl
      | cons x l ih => intro k a h; unfold putsX; rw [if_neg (by simp; omega)]; exact ih _ _ (by omega)
    by_cases h0 : i = k
    · subst h0
      simp at hi
      subst hi
      rw [none _ _ _ (Nat.le_refl _)]
      exact h.1
    · unfold putsX
      rw [if_pos (by simp; omega)]
      have h2 := h.2 (val k)
      rw [show (List.range k).map val ++ [val k] = (List.range (k + 1)).map val by rw [List.range_succ]; simp] at h2
      exact rgWalk_at val rest (k + 1) _ h2 i o (by omega) (by rw [show i - k = (i - (k + 1)) + 1 by omega] at hi; simpa using hi)
theorem rgWalk_end {C B : World → Prop} {e : Nat} {R : Nat → World → World → Prop} {V : Nat → Value → World → Prop} {Q : List Value → Act → Prop} (val : Nat → Value) : ∀ (l : List Oper) (k : Nat) (a : Act), rgWalk P ops C B e R V Q ((List.range k).map val) k l a → Q ((List.range (k + l.length)).map val) (putsX (fun _ => true) val k l a)
  | [], _, _, h => h
  | o :: rest, k, a, h => by
    unfold putsX
    have h2 := h.2 (val k)
    rw [show (List.range k).map val ++ [val k] = (List.range (k + 1)).map val by rw [List.range_succ]; simp] at h2
    have := rgWalk_end val rest (k + 1) _ h2
    rw [show k + 1 + rest.length = k + (o :: rest).length by simp; omega] at this
    exact this
theorem putsX_put {X : Nat → Bool} {val : Nat → Value} {d : Option Tmp} {v : Value} : ∀ (l : List Oper) (k : Nat) (a : Act), (∀ o ∈ l, ∀ t, d = some t → o.dst ≠ some t) → putsX X val k l (a.put d v) = (putsX X val k l a).put d v
  | [], _, _, _ => rfl
  | o :: rest, k, a, h => by
    unfold putsX
    split
    · rw [Act.put_comm a v (val k) (h o (by simp))]
      exact putsX_put rest (k + 1) _ fun o' ho' => h o' (by simp [ho'])
    · exact putsX_put rest (k + 1) _ fun o' ho' => h o' (by simp [ho'])
theorem putsX_congr {X Y : Nat → Bool} {val val' : Nat → Value} : ∀ (l : List Oper) (k : Nat) (a : Act), (∀ j, k ≤ j → j < k + l.length → X j = Y j ∧ (X j = true → val j = val' j)) → putsX X val k l a = putsX Y val' k l a
  | [], _, _, _ => rfl
  | o :: rest, k, a, h => by
    unfold putsX
    obtain ⟨h1, h2⟩ := h k (Nat.le_refl _) (by simp)
    rw [← h1]
    have : (if X k = true then a.put o.dst (val k) else a) = (if X k = true then a.put o.dst (val' k) else a) := by
      split
      · rename_i hx; rw [h2 hx]
      · rfl
    rw [this]
    exact putsX_congr rest (k + 1) _ fun j hj1 hj2 => h j (by omega) (by simp; omega)
/-- one operation more has come up -/
theorem putsX_more {X : Nat → Bool} {val : Nat → Value} {i : Nat} {o : Oper} {v : Value} : ∀ (l : List Oper) (k : Nat) (a : Act), k ≤ i → l[i - k]? = some o →
    (∀ j p, l[j]? = some p → k + j ≠ i → ∀ t, o.dst = some t → p.dst ≠ some t) → X i = false →
    putsX (fun j => X j || decide (j = i)) (fun j => if j = i then v else val j) k l a = (putsX X val k l a).put o.dst v
  | [], _, _, _, hi, _, _ => by simp at hi
  | p :: rest, k, a, hk, hi, hd, hx => by
    unfold putsX
    by_cases h0 : i = k
    · subst h0
      simp at hi
      subst hi
      simp only [hx, Bool.false_or, decide_true, if_true, Bool.false_eq_true, if_false]
      rw [← putsX_put (X := X) (val := val) rest (i + 1) a fun o' ho' t ht => by
        obtain ⟨q, hq, he⟩ := List.getElem_of_mem ho'
        exact hd (q + 1) o' (by simp [← he]) (by omega) t ht]
      exact putsX_congr rest (i + 1) _ fun j hj1 hj2 => ⟨by simp; omega, fun _ => by rw [if_neg (by omega)]⟩
    · have := putsX_more (X := X) (val := val) (i := i) (o := o) (v := v) rest (k + 1) (if X k = true then a.put p.dst (val k) else a) (by omega)
        (by rw [show i - k = (i - (k + 1)) + 1 by omega] at hi; simpa using hi) (fun j q hj hn => hd (j + 1) q (by simpa using hj) (by omega)) hx
      rw [← this]
      have e1 : (decide (k = i)) = false := by simp; omega
      rw [if_neg (by omega : ¬ k = i), e1, Bool.or_false]
/-- two frames that are alike at some temporaries -/
structure Alike (S : List Tmp) (a b : Act) : Prop where
  size : a.tmps.size = b.tmps.size
  at_ : ∀ t ∈ S, a.tmps[t]? = b.tmps[t]?
theorem alike_puts {S : List Tmp} {X Y : Nat → Bool} {val : Nat → Value} : ∀ (l : List Oper) (k : Nat) (a b : Act), Alike S a b →
    (∀ j o t, l[j]? = some o → o.dst = some t → t ∈ S → X (k + j) = Y (k + j)) → Alike S (putsX X val k l a) (putsX Y val k l b)
  | [], _, _, _, h, _ => h
  | o :: rest, k, a, b, h, hS => by
    have both : ∀ (a b : Act) (d : Option Tmp) (v : Value), Alike S a b → Alike S (a.put d v) (b.put d v) := by
      intro a b d v h
      cases d with
      | none => exact h
      | some d =>
        refine ⟨by simp [Act.put, h.size], fun t ht => ?_⟩
        simp only [Act.put, Array.getElem?_setIfInBounds, h.size, h.at_ t ht]
    have left : ∀ (a b : Act) (d : Option Tmp) (v : Value), (∀ t, d = some t → t ∉ S) → Alike S a b → Alike S (a.put d v) b := by
      intro a b d v hd h
      cases d with
      | none => exact h
      | some d =>
        refine ⟨by simp [Act.put, h.size], fun t ht => ?_⟩
        have : d ≠ t := fun e => hd d rfl (e ▸ ht)
        simp only [Act.put, Array.getElem?_setIfInBounds_ne this]
        exact h.at_ t ht
    have right : ∀ (a b : Act) (d : Option Tmp) (v : Value), (∀ t, d = some t → t ∉ S) → Alike S a b → Alike S a (b.put d v) := by
      intro a b d v hd h
      cases d with
      | none => exact h
      | some d =>
        refine ⟨by simp [Act.put, h.size], fun t ht => ?_⟩
        have : d ≠ t := fun e => hd d rfl (e ▸ ht)
        simp only [Act.put, Array.getElem?_setIfInBounds_ne this]
        exact h.at_ t ht
    unfold putsX
    refine alike_puts rest (k + 1) _ _ ?_ fun j o' t hj ht hS' => by
      have := hS (j + 1) o' t (by simpa using hj) ht hS'
      rwa [show k + (j + 1) = k + 1 + j by omega] at this
    by_cases hin : ∃ t, o.dst = some t ∧ t ∈ S
    · obtain ⟨t, ht, hS'⟩ := hin
      have := hS 0 o t (by simp) ht hS'
      simp only [Nat.add_zero] at this
      rw [this]
      split
      · exact both _ _ _ _ h
      · exact h
    · have hn : ∀ t, o.dst = some t → t ∉ S := fun t ht hs => hin ⟨t, ht, hs⟩
      split <;> split
      · exact both _ _ _ _ h
      · exact left _ _ _ _ hn h
      · exact right _ _ _ _ hn h
      · exact h
theorem alike_exec {o : Oper} (hs : ∀ cs b, o.op ≠ .select cs b) {a b : Act} (h : Alike (o.looksAt ops) a b) : execOp a.eval o = execOp b.eval o :=
  execOp_congr o hs fun x hx => by
    cases x with
    | tmp t =>
      have := h.at_ t (List.mem_append_left _ (List.mem_filterMap.2 ⟨.tmp t, by simpa using hx, rfl⟩))
      simp [Act.eval, this]
    | _ => rfl
theorem alike_wanted {o : Oper} {a b : Act} (h : Alike (o.looksAt ops) a b) : Region.wanted o (yielded ops a.tmps) = Region.wanted o (yielded ops b.tmps) := by
  unfold Region.wanted
  cases hg : o.guard with
  | none => rfl
  | some gw =>
    obtain ⟨g, want⟩ := gw
    have : yielded ops a.tmps g = yielded ops b.tmps g := by
      unfold yielded
      cases ht : (ops[g]?).bind (·.dst) with
      | none => rfl
      | some t =>
        have := h.at_ t (by simp [Oper.looksAt, hg, ht])
        simp [this]
    simp only [this]
theorem range_val {val : Nat → Value} {n j : Nat} (h : j < n) : ((List.range n).map val).getD j undef = val j := by simp [h]
/-- what is asked of the region's text alone -/
def rgB (ops : Array Oper) (n : Nat) : Bool :=
  Region.noSelect ops && decide (n < ops.size) && Region.sinkB .any ops n && Region.chainB .any ops n &&
  Region.seqB .any ops (ops.size - n) n (Array.replicate n true ++ Array.replicate (ops.size - n) false) &&
  ((List.range n).all fun i => match ops[i]? with
    | none => false
    | some o => o.dst.isSome && (waits o).all (fun j => decide (j < i)) &&
      (o.looksAt ops).all (fun t => (List.range n).all fun j => dstOf ops j != some t || (waits o).contains j) &&
      (List.range n).all (fun j => j == i || dstOf ops j != o.dst))
structure RgText (ops : Array Oper) (n : Nat) : Prop where
  sel : Region.noSelect ops = true
  lt : n < ops.size
  sink : Region.sinkB .any ops n = true
  chain : Region.chainB .any ops n = true
  seq : Region.seqB .any ops (ops.size - n) n (Array.replicate n true ++ Array.replicate (ops.size - n) false) = true
  op : ∀ i, i < n → ∃ o d, ops[i]? = some o ∧ o.dst = some d ∧ (∀ j ∈ waits o, j < i) ∧ (∀ t ∈ o.looksAt ops, ∀ j, j < n → dstOf ops j = some t → j ∈ waits o) ∧ (∀ j, j < n → j ≠ i → dstOf ops j ≠ some d)
theorem rgText {n : Nat} (h : rgB ops n = true) : RgText ops n := by
  unfold rgB at h
  simp only [Bool.and_eq_true, decide_eq_true_eq] at h
  obtain ⟨⟨⟨⟨⟨h1, h2⟩, h3⟩, h4⟩, h5⟩, h6⟩ := h
  refine ⟨h1, h2, h3, h4, h5, fun i hi => ?_⟩
  have h7 := List.all_eq_true.1 h6 i (List.mem_range.2 hi)
  cases ho : ops[i]? with
  | none => simp [ho] at h7
  | some o =>
    simp only [ho, Bool.and_eq_true] at h7
    obtain ⟨⟨⟨h8, h9⟩, h10⟩, h11⟩ := h7
    cases hd : o.dst with
    | none => simp [hd] at h8
    | some d =>
      refine ⟨o, d, rfl, hd, fun j hj => by simpa using List.all_eq_true.1 h9 j hj, fun t ht j hj hjt => ?_, fun j hj hne he => ?_⟩
      · have := List.all_eq_true.1 (List.all_eq_true.1 h10 t ht) j (List.mem_range.2 hj)
        simpa [hjt] using this
      · have := List.all_eq_true.1 h11 j (List.mem_range.2 hj)
        simp [he, hd, hne] at this
theorem mem_waits {o : Oper} {j : Nat} : j ∈ waits o ↔ ∃ e ∈ o.after, Region.binds .any e = true ∧ e.on = j := by
  unfold waits
  rw [List.mem_filterMap]
  constructor
  · rintro ⟨e, he, h⟩
    by_cases hb : Region.binds .any e = true
    · rw [if_pos hb] at h
      exact ⟨e, by simpa using he, hb, Option.some.inj h⟩
    · rw [if_neg hb] at h
      cases h
  · rintro ⟨e, he, hb, rfl⟩
    exact ⟨e, by simpa using he, by rw [if_pos hb]⟩
def unl (n : Nat) (listed : Array Bool) : Nat := ((List.range n).filter fun i => !listed.getD i false).length
/-- the heart: whatever order is drawn -/
theorem rg_any {n e : Nat} {C B : World → Prop} {R : Nat → World → World → Prop} {V : Nat → Value → World → Prop} {Q : Exit → Act → World → Prop} {l : List Oper} {a0 : Act} (T : RgText l.toArray n)
    (hRC : ∀ k w w', k < n → C w → R k w w' → C w') (hRV : ∀ j k v w w', j < n → k < n → j ≠ k → V j v w → C w → R k w w' → V j v w')
    (hRB : ∀ k w w', k < n → k ≠ e → B w → R k w w' → B w')
    (hwalk : rgWalk P l.toArray C B e R V (fun vs a' => ∀ w', C w' → needs V vs w' (List.range n) → wpList P l.toArray Q (l.drop n) a' w') [] 0 (l.take n) a0) :
    ∀ (f : Nat) (listed : Array Bool) (val : Nat → Value) (w : World), unl n listed = f → HeadInv .any l.toArray n listed → C w → (listed.getD e false = false → B w) →
      (∀ j, j < n → listed.getD j false = true → V j (val j) w) →
      wpAny P .any l.toArray Q (f + (l.toArray.size - n)) listed (putsX (fun j => listed.getD j false) val 0 (l.take n) a0) w := by
  have hn : n < l.length := by simpa using T.lt
  have htl : (l.take n).length = n := by simp; omega
  have hops : ∀ i : Nat, l.toArray[i]? = l[i]? := fun i => by simp
  have hsel := Region.noSelect_spec T.sel
  intro f
  induction f with
  | zero =>
    intro listed val w hu inv hC hBl hV
    have hall : ∀ i, i < n → listed.getD i false = true := fun i hi => by
      rcases hh : listed.getD i false with _ | _
      · have : i ∈ (List.range n).filter fun i => !listed.getD i false := List.mem_filter.2 ⟨List.mem_range.2 hi, by rw [hh]; rfl⟩
        unfold unl at hu
        rw [List.length_eq_zero_iff.1 hu] at this
        cases this
      · rfl
    have hlisted : listed = Array.replicate n true ++ Array.replicate (l.toArray.size - n) false := by
      apply Array.ext
      · simp [inv.size]; omega
      · intro i h1 h2
        by_cases hi : i < n
        · have := hall i hi
          simp [h1] at this
          rw [this]
          simp [hi]
        · have := inv.tail i (by omega) (by rw [← inv.size]; exact h1)
          simp [h1] at this
          rw [this]
          simp [Array.getElem_append, hi]
    have hfr : putsX (fun j => listed.getD j false) val 0 (l.take n) a0 = putsX (fun _ => true) val 0 (l.take n) a0 :=
      putsX_congr _ _ _ fun j _ hj => ⟨hall j (by rw [htl] at hj; omega), fun _ => rfl⟩
    have hend := rgWalk_end val (l.take n) 0 a0 hwalk
    rw [hfr]
    have := hend w hC (fun j hj => by
      have hj' := List.mem_range.1 hj
      rw [range_val (by rw [htl]; omega)]
      exact hV j hj' (hall j hj'))
    rw [Nat.zero_add]
    have h2 := wpAny_of_seq (md := .any) (Q' := Q) (l.drop n) n listed (putsX (fun _ => true) val 0 (l.take n) a0) w (fun j => by simp [List.getElem?_drop]) (by
      rw [hlisted]; have := T.seq; simpa using this) this
    simpa using h2
  | succ f ih =>
    intro listed val w hu inv hC hBl hV
    -- there is a head operation that may come up
    have hex : ∃ i, i < n ∧ listed.getD i false = false := by
      unfold unl at hu
      have : (List.range n).filter (fun i => !listed.getD i false) ≠ [] := fun h => by rw [h] at hu; simp at hu
      obtain ⟨i, hi⟩ := List.exists_mem_of_ne_nil _ this
      rw [List.mem_filter] at hi
      exact ⟨i, List.mem_range.1 hi.1, by simpa using hi.2⟩
    have hready : ∀ m, (∀ i, i < m → i < n → listed.getD i false = true) ∨ ∃ i, i < n ∧ i ∈ Region.ready .any l.toArray listed := by
      intro m
      induction m with
      | zero => exact .inl fun i h => by omega
      | succ m ihm =>
        rcases ihm with h | h
        · by_cases hm : m < n
          · rcases hh : listed.getD m false with _ | _
            · refine .inr ⟨m, hm, ?_⟩
              obtain ⟨o, d, ho, hd, hw, _⟩ := T.op m hm
              refine mem_ready.2 ⟨getD_in (by rw [inv.size]; have := T.lt; omega) hh, o, ho, fun e he hb => ?_⟩
              have := hw e.on (mem_waits.2 ⟨e, he, hb, rfl⟩)
              exact h e.on this (by omega)
            · refine .inl fun i hi hin => ?_
              by_cases him : i = m
              · subst him; exact hh
              · exact h i (by omega) hin
          · exact .inl fun i hi hin => h i (by omega) hin
        · exact .inr h
    obtain ⟨i0, hi0, hi0f⟩ := hex
    have hne : Region.ready .any l.toArray listed ≠ [] := by
      rcases hready (i0 + 1) with h | ⟨i, _, hi⟩
      · have := h i0 (by omega) hi0
        rw [hi0f] at this
        cases this
      · intro he
        rw [he] at hi
        cases hi
    rw [show f + 1 + (l.toArray.size - n) = (f + (l.toArray.size - n)) + 1 by omega]
    refine ⟨fun h => absurd h hne, fun i hi => ?_⟩
    have hin : i < n := by
      rcases Nat.lt_or_ge i n with h | h
      · exact h
      · exact absurd hi (tail_waits T.sink T.chain T.lt inv _ i0 rfl hi0 (getD_in (by rw [inv.size]; have := T.lt; omega) hi0f) i h)
    obtain ⟨o, d, ho, hd, hw, hlook, huniq⟩ := T.op i hin
    obtain ⟨hun, o', ho', hall⟩ := mem_ready.1 hi
    have heq : o' = o := Option.some.inj (ho'.symm.trans ho)
    subst heq
    have hlo : (l.take n)[i - 0]? = some o' := by rw [Nat.sub_zero, List.getElem?_take, if_pos hin, ← hops]; exact ho
    have hwl : ∀ j ∈ waits o', listed.getD j false = true := fun j hj => by
      obtain ⟨e, he, hb, rfl⟩ := mem_waits.1 hj
      exact hall e he hb
    have hiun : listed.getD i false = false := getD_both hun
    have hdst : ∀ j (p : Oper), (l.take n)[j]? = some p → j < n ∧ dstOf l.toArray j = p.dst := fun j p hj => by
      have hj' : j < n := by
        have := (List.getElem?_eq_some_iff.1 hj).1
        rw [htl] at this
        exact this
      rw [List.getElem?_take, if_pos hj'] at hj
      exact ⟨hj', by unfold dstOf; rw [hops, hj]; rfl⟩
    have hal : Alike (o'.looksAt l.toArray) (putsX (fun j => listed.getD j false) val 0 (l.take n) a0) (putsX (fun j => decide (j < i)) val 0 (l.take n) a0) :=
      alike_puts _ _ _ _ ⟨rfl, fun _ _ => rfl⟩ fun j p t hj ht hS => by
        obtain ⟨hj', hjd⟩ := hdst j p hj
        have hjw := hlook t hS j hj' (hjd.trans ht)
        rw [Nat.zero_add, hwl j hjw]
        simp [hw j hjw]
    have hob := rgWalk_at val (l.take n) 0 a0 hwalk i o' (Nat.zero_le _) hlo w hC (fun hie => hBl (hie ▸ getD_both hun)) (fun j hj => by
      have := hw j hj
      rw [range_val this]
      exact hV j (by omega) (hwl j hj))
    -- what is known behind the operation
    have next : ∀ v w', R i w w' ∨ w' = w → V i v w' → wpAny P .any l.toArray Q (f + (l.toArray.size - n)) (listed.setIfInBounds i true) ((putsX (fun j => listed.getD j false) val 0 (l.take n) a0).put o'.dst v) w' := by
      intro v w' hR hVi
      have hilt : i < listed.size := by rw [inv.size]; have := T.lt; omega
      have hset : ∀ j, (listed.setIfInBounds i true).getD j false = (listed.getD j false || decide (j = i)) := fun j => by
        by_cases hj : j = i
        · subst hj; simp [hilt]
        · rw [getD_set_ne false (Ne.symm hj)]; simp [hj]
      have hfr := putsX_more (X := fun j => listed.getD j false) (val := val) (i := i) (o := o') (v := v) (l.take n) 0 a0 (Nat.zero_le _) hlo (fun j p hj hne t ht => by
        obtain ⟨hj', hjd⟩ := hdst j p hj
        rw [← hjd]
        rw [hd] at ht
        obtain rfl : d = t := by simpa using ht
        exact huniq j hj' (by omega)) hiun
      have hfr2 : putsX (fun j => (listed.setIfInBounds i true).getD j false) (fun j => if j = i then v else val j) 0 (l.take n) a0 = (putsX (fun j => listed.getD j false) val 0 (l.take n) a0).put o'.dst v := by
        rw [← hfr]
        exact putsX_congr _ _ _ fun j _ _ => ⟨hset j, fun _ => rfl⟩
      rw [← hfr2]
      have hC' : C w' := by
        rcases hR with h | h
        · exact hRC i _ _ hin hC h
        · rw [h]; exact hC
      have hB' : (listed.setIfInBounds i true).getD e false = false → B w' := fun hl => by
        rw [hset, Bool.or_eq_false_iff] at hl
        have hne : e ≠ i := by simpa using hl.2
        rcases hR with h | h
        · exact hRB i _ _ hin (Ne.symm hne) (hBl hl.1) h
        · rw [h]; exact hBl hl.1
      refine ih _ _ w' ?_ (inv.set hi hin) hC' hB' fun j hj hjl => ?_
      · unfold unl at hu ⊢
        have hnd : (List.range n).Nodup := List.nodup_range
        have hfil : (List.range n).filter (fun k => !(listed.setIfInBounds i true).getD k false) = ((List.range n).filter fun k => !listed.getD k false).erase i := by
          rw [List.Nodup.erase_eq_filter (hnd.filter _), List.filter_filter]
          refine List.filter_congr fun k _ => ?_
          rw [hset k]
          by_cases hk : k = i <;> simp [hk]
        rw [hfil, List.length_erase_of_mem (by rw [List.mem_filter]; exact ⟨List.mem_range.2 hin, by simp only [hiun, Bool.not_false]⟩)]
        omega
      · by_cases hji : j = i
        · subst hji
          simpa using hVi
        · have hjl' : listed.getD j false = true := by rw [hset] at hjl; simpa [hji] using hjl
          have h3 := hV j hj hjl'
          rw [if_neg hji]
          rcases hR with h | h
          · exact hRV j i _ _ _ hj hin hji h3 hC h
          · rw [h]; exact h3
    unfold wpOp
    simp only [ho]
    rw [alike_wanted hal]
    split
    · rename_i hwt
      rw [if_pos hwt] at hob
      exact .inl (wp_of_grow hob (alike_exec (hsel i o' · · ho) hal) fun v w' hT => next v w' (.inl hT.1) hT.2)
    · rename_i hwt
      rw [if_neg hwt] at hob
      exact next undef w (.inr rfl) hob
/-- **the law**: C is what holds of every world on the way, R what an operation may do to it, V what an operation's value is good for -/
theorem wp_region_rg {id : Nat} {Q : Exit → Act → World → Prop} {a : Act} {w : World} {l : List Oper} (n e : Nat) (C B : World → Prop) (R : Nat → World → World → Prop) (V : Nat → Value → World → Prop)
    (hm : P.follows .mixedOrders = true) (hB : rgB l.toArray n = true)
    (hRC : ∀ k w w', k < n → C w → R k w w' → C w') (hRV : ∀ j k v w w', j < n → k < n → j ≠ k → V j v w → C w → R k w w' → V j v w') (hRB : ∀ k w w', k < n → k ≠ e → B w → R k w w' → B w')
    (hC : C { w with drawn := w.drawn + 1 }) (hB0 : B { w with drawn := w.drawn + 1 })
    (hwalk : rgWalk P l.toArray C B e R V (fun vs a' => ∀ w', C w' → needs V vs w' (List.range n) → wpList P l.toArray Q (l.drop n) a' w') [] 0 (l.take n) a) :
    (Code.region id l.toArray true).wp P Q a w := by
  refine wp_region_any hm ?_
  have T := rgText hB
  have hn : n < l.length := by simpa using T.lt
  have hnone : ∀ (l' : List Oper) (k : Nat) (a' : Act), putsX (fun j => (Array.replicate l.toArray.size false).getD j false) (fun _ => undef) k l' a' = a' := by
    intro l'
    induction l' with
    | nil => intros; rfl
    | cons o rest ih => intro k a'; unfold putsX; rw [getD_replicate_false]; exact ih _ _
  have := rg_any (f := n) T hRC hRV hRB hwalk (Array.replicate l.toArray.size false) (fun _ => undef) { w with drawn := w.drawn + 1 }
    (by unfold unl; rw [List.filter_eq_self.2 (fun i _ => by rw [getD_replicate_false]; rfl)]; simp)
    ⟨by simp, fun j oj _ hl => (by rw [getD_replicate_false] at hl; cases hl), fun t _ ht => getD_in (by simpa using ht) (getD_replicate_false _ _)⟩ hC (fun _ => hB0)
    (fun j _ hj => by rw [getD_replicate_false] at hj; cases hj)
  rw [hnone] at this
  have hs : n + (l.toArray.size - n) = l.toArray.size := by simp; omega
  rw [hs] at this
  exact this
end
end Go.Proofs.YtiiodfcbpmkodaaGreat
