/- Regions that draw their order: every operation is asked alone, under what the operations that it waits for have laid down; one walk serves every order. No condition. The law for regions that draw their order, over a list of what is known of each operation's value; one operation may change the blocks of a set. No condition. The operations of this program, each run alone. No condition. A list on a needle is put in another's place. No condition. Copies and joins of slices of numbers, as rows of one's own: both sides. Condition: room. The program's loop on machines. No condition. The program's transfer on machines. No condition. A carrier is set; sums, indexes. No condition. The program's execution of an operation, kind by kind. No condition. The program's execution of an operation: drop, in, out. No condition. The program's execution of an operation. Condition: room. The reference's machine: beds, lists on needles. No condition. The reference's machine: carriers, loops. No condition. -/
import Derived.Test.YtplabnjdhkmmkaaPF2
import Derived.StillTail
import Derived.Test.YtplabnjdhkmmkaaPF13
import Derived.Laws.AppendOwnNone
import Derived.Lib.AppendZerosOnto
import Derived.Lib.SliceRun
import Derived.Test.YtplabnjdhkmmkaaPF10
section
set_option linter.unusedSimpArgs false
set_option linter.unusedVariables false
namespace Go.Proofs.Ytplabnjdhkmmkaa
section
variable {P : Program} {ops : Array Oper}
/-- what one operation must do, taken alone: T is said of the value and the world behind it -/
def growUpon (P : Program) (T : Value → World → Prop) : Result Next → Prop
  | .ok (.value u) w' => T u w'
  | .ok .skip w' => T undef w'
  | .ok (.enter f args) w' => Calls P f args w' fun e w'' => ∃ v, e = .returned v ∧ T v w''
  | _ => False
def grow (P : Program) (o : Oper) (a : Act) (w : World) (T : Value → World → Prop) : Prop := growUpon P T ((execOp a.eval o).run P w)
theorem wp_of_grow {o : Oper} {a b : Act} {w : World} {T : Value → World → Prop} {K : Act → World → Prop} {Q : Exit → Act → World → Prop}
    (h : grow P o a w T) (he : execOp b.eval o = execOp a.eval o) (hK : ∀ v w', T v w' → K (b.put o.dst v) w') : o.wp P b w K Q := by
  unfold grow at h
  unfold Oper.wp
  rw [he]
  generalize (execOp a.eval o).run P w = r at *
  cases r with
  | ok n w' =>
    cases n <;> simp only [growUpon] at h <;> simp only [Oper.upon]
    case value u => exact hK _ _ h
    case skip => exact hK _ _ h
    case enter f args => exact h.mono fun e w'' ⟨v, he, hv⟩ => by subst he; exact hK _ _ hv
  | halt x w' => simp only [growUpon] at h
/-- the operations that one waits for -/
def waits (o : Oper) : List Nat := o.after.toList.filterMap fun e => if Region.binds .any e then some e.on else none
def dstOf (ops : Array Oper) (j : Nat) : Option Tmp := (ops[j]?).bind (·.dst)
/-- what is known of the operations that one waits for; vs: the values so far -/
def needs (V : Nat → Value → World → Prop) (vs : List Value) (w : World) (l : List Nat) : Prop := ∀ j ∈ l, V j (vs.getD j undef) w
/-- the walk in the text's order -/
def rgWalk (P : Program) (ops : Array Oper) (C B : World → Prop) (e : Nat) (R : Nat → World → World → Prop) (V : Nat → Value → World → Prop) (Q : List Value → Act → Prop) : List Value → Nat → List Oper → Act → Prop
  | vs, _, [], a => Q vs a
  | vs, k, o :: rest, a => (∀ w, C w → (k = e → B w) → needs V vs w (waits o) → if Region.wanted o (yielded ops a.tmps) = true then grow P o a w (fun v w' => R k w w' ∧ V k v w') else V k undef w) ∧
      ∀ v, rgWalk P ops C B e R V Q (vs ++ [v]) (k + 1) rest (a.put o.dst v)
/-- the frame when some operations have come up -/
def putsX (X : Nat → Bool) (val : Nat → Value) : Nat → List Oper → Act → Act
  | _, [], a => a
  | k, o :: rest, a => putsX X val (k + 1) rest (if X k then a.put o.dst (val k) else a)
theorem rgWalk_at {C B : World → Prop} {e : Nat} {R : Nat → World → World → Prop} {V : Nat → Value → World → Prop} {Q : List Value → Act → Prop} (val : Nat → Value) : ∀ (l : List Oper) (k : Nat) (a : Act), rgWalk P ops C B e R V Q ((List.range k).map val) k l a →
    ∀ i o, k ≤ i → l[i - k]? = some o → ∀ w, C w → (i = e → B w) → needs V ((List.range i).map val) w (waits o) →
      if Region.wanted o (yielded ops (putsX (fun j => decide (j < i)) val k l a).tmps) = true then grow P o (putsX (fun j => decide (j < i)) val k l a) w (fun v w' => R i w w' ∧ V i v w') else V i undef w
  | [], _, _, _ => fun i o _ hi => by simp at hi
  | o0 :: rest, k, a, h => fun i o hk hi => by
    have none : ∀ (l : List Oper) (k : Nat) (a : Act), i ≤ k → putsX (fun j => decide (j < i)) val k l a = a := by
      intro l
      induction l with
      | nil => intros; rfl
      | cons x l ih => intro k a h; unfold putsX; rw [if_neg (by simp; omega)]; exact ih _ _ (by omega)
    by_cases h0 : i = k
    · subst h0
      simp at hi
      subst hi
      rw [none _ _ _ (Nat.le_refl _)]
      exact h.1
    · unfold putsX
      rw [if_pos (by simp; omega)]
      have h2 := h.2 (val k)
      rw [show (List.range k).map val ++ [val k] = (List.range (k + 1)).map val by rw [List.range_succ]; simp] at h2
      exact rgWalk_at val rest (k + 1) _ h2 i o (by omega) (by rw [show i - k = (i - (k + 1)) + 1 by omega] at hi; simpa using hi)
theorem rgWalk_end {C B : World → Prop} {e : Nat} {R : Nat → World → World → Prop} {V : Nat → Value → World → Prop} {Q : List Value → Act → Prop} (val : Nat → Value) : ∀ (l : List Oper) (k : Nat) (a : Act), rgWalk P ops C B e R V Q ((List.range k).map val) k l a → Q ((List.range (k + l.length)).map val) (putsX (fun _ => true) val k l a)
  | [], _, _, h => h
  | o :: rest, k, a, h => by
    unfold putsX
    have h2 := h.2 (val k)
    rw [show (List.range k).map val ++ [val k] = (List.range (k + 1)).map val by rw [List.range_succ]; simp] at h2
    have := rgWalk_end val rest (k + 1) _ h2
    rw [show k + 1 + rest.length = k + (o :: rest).length by simp; omega] at this
    exact this
theorem putsX_put {X : Nat → Bool} {val : Nat → Value} {d : Option Tmp} {v : Value} : ∀ (l : List Oper) (k : Nat) (a : Act), (∀ o ∈ l, ∀ t, d = some t → o.dst ≠ some t) → putsX X val k l (a.put d v) = (putsX X val k l a).put d v
  | [], _, _, _ => rfl
  | o :: rest, k, a, h => by
    unfold putsX
    split
    · rw [Act.put_comm a v (val k) (h o (by simp))]
      exact putsX_put rest (k + 1) _ fun o' ho' => h o' (by simp [ho'])
    · exact putsX_put rest (k + 1) _ fun o' ho' => h o' (by simp [ho'])
theorem putsX_congr {X Y : Nat → Bool} {val val' : Nat → Value} : ∀ (l : List Oper) (k : Nat) (a : Act), (∀ j, k ≤ j → j < k + l.length → X j = Y j ∧ (X j = true → val j = val' j)) → putsX X val k l a = putsX Y val' k l a
  | [], _, _, _ => rfl
  | o :: rest, k, a, h => by
    unfold putsX
    obtain ⟨h1, h2⟩ := h k (Nat.le_refl _) (by simp)
    rw [← h1]
    have : (if X k = true then a.put o.dst (val k) else a) = (if X k = true then a.put o.dst (val' k) else a) := by
      split
      · rename_i hx; rw [h2 hx]
      · rfl
    rw [this]
    exact putsX_congr rest (k + 1) _ fun j hj1 hj2 => h j (by omega) (by simp; omega)
/-- one operation more has come up -/
theorem putsX_more {X : Nat → Bool} {val : Nat → Value} {i : Nat} {o : Oper} {v : Value} : ∀ (l : List Oper) (k : Nat) (a : Act), k ≤ i → l[i - k]? = some o →
    (∀ j p, l[j]? = some p → k + j ≠ i → ∀ t, o.dst = some t → p.dst ≠ some t) → X i = false →
    putsX (fun j => X j || decide (j = i)) (fun j => if j = i then v else val j) k l a = (putsX X val k l a).put o.dst v
  | [], _, _, _, hi, _, _ => by simp at hi
  | p :: rest, k, a, hk, hi, hd, hx => by
    unfold putsX
    by_cases h0 : i = k
    · subst h0
      simp at hi
      subst hi
      simp only [hx, Bool.false_or, decide_true, if_true, Bool.false_eq_true, if_false]
      rw [← putsX_put (X := X) (val := val) rest (i + 1) a fun o' ho' t ht => by
        obtain ⟨q, hq, he⟩ := List.getElem_of_mem ho'
        exact hd (q + 1) o' (by simp [← he]) (by omega) t ht]
      exact putsX_congr rest (i + 1) _ fun j hj1 hj2 => ⟨by simp; omega, fun _ => by rw [if_neg (by omega)]⟩
    · have := putsX_more (X := X) (val := val) (i := i) (o := o) (v := v) rest (k + 1) (if X k = true then a.put p.dst (val k) else a) (by omega)
        (by rw [show i - k = (i - (k + 1)) + 1 by omega] at hi; simpa using hi) (fun j q hj hn => hd (j + 1) q (by simpa using hj) (by omega)) hx
      rw [← this]
      have e1 : (decide (k = i)) = false := by simp; omega
      rw [if_neg (by omega : ¬ k = i), e1, Bool.or_false]
/-- two frames that are alike at some temporaries -/
structure Alike (S : List Tmp) (a b : Act) : Prop where
  size : a.tmps.size = b.tmps.size
  at_ : ∀ t ∈ S, a.tmps[t]? = b.tmps[t]?
theorem alike_puts {S : List Tmp} {X Y : Nat → Bool} {val : Nat → Value} : ∀ (l : List Oper) (k : Nat) (a b : Act), Alike S a b →
    (∀ j o t, l[j]? = some o → o.dst = some t → t ∈ S → X (k + j) = Y (k + j)) → Alike S (putsX X val k l a) (putsX Y val k l b)
  | [], _, _, _, h, _ => h
  | o :: rest, k, a, b, h, hS => by
    have both : ∀ (a b : Act) (d : Option Tmp) (v : Value), Alike S a b → Alike S (a.put d v) (b.put d v) := by
      intro a b d v h
      cases d with
      | none => exact h
      | some d =>
        refine ⟨by simp [Act.put, h.size], fun t ht => ?_⟩
        simp only [Act.put, Array.getElem?_setIfInBounds, h.size, h.at_ t ht]
    have left : ∀ (a b : Act) (d : Option Tmp) (v : Value), (∀ t, d = some t → t ∉ S) → Alike S a b → Alike S (a.put d v) b := by
      intro a b d v hd h
      cases d with
      | none => exact h
      | some d =>
        refine ⟨by simp [Act.put, h.size], fun t ht => ?_⟩
        have : d ≠ t := fun e => hd d rfl (e ▸ ht)
        simp only [Act.put, Array.getElem?_setIfInBounds_ne this]
        exact h.at_ t ht
    have right : ∀ (a b : Act) (d : Option Tmp) (v : Value), (∀ t, d = some t → t ∉ S) → Alike S a b → Alike S a (b.put d v) := by
      intro a b d v hd h
      cases d with
      | none => exact h
      | some d =>
        refine ⟨by simp [Act.put, h.size], fun t ht => ?_⟩
        have : d ≠ t := fun e => hd d rfl (e ▸ ht)
        simp only [Act.put, Array.getElem?_setIfInBounds_ne this]
        exact h.at_ t ht
    unfold putsX
    refine alike_puts rest (k + 1) _ _ ?_ fun j o' t hj ht hS' => by
      have := hS (j + 1) o' t (by simpa using hj) ht hS'
      rwa [show k + (j + 1) = k + 1 + j by omega] at this
    by_cases hin : ∃ t, o.dst = some t ∧ t ∈ S
    · obtain ⟨t, ht, hS'⟩ := hin
      have := hS 0 o t (by simp) ht hS'
      simp only [Nat.add_zero] at this
      rw [this]
      split
      · exact both _ _ _ _ h
      · exact h
    · have hn : ∀ t, o.dst = some t → t ∉ S := fun t ht hs => hin ⟨t, ht, hs⟩
      split <;> split
      · exact both _ _ _ _ h
      · exact left _ _ _ _ hn h
      · exact right _ _ _ _ hn h
      · exact h
theorem alike_exec {o : Oper} (hs : ∀ cs b, o.op ≠ .select cs b) {a b : Act} (h : Alike (o.looksAt ops) a b) : execOp a.eval o = execOp b.eval o :=
  execOp_congr o hs fun x hx => by
    cases x with
    | tmp t =>
      have := h.at_ t (List.mem_append_left _ (List.mem_filterMap.2 ⟨.tmp t, by simpa using hx, rfl⟩))
      simp [Act.eval, this]
    | _ => rfl
theorem alike_wanted {o : Oper} {a b : Act} (h : Alike (o.looksAt ops) a b) : Region.wanted o (yielded ops a.tmps) = Region.wanted o (yielded ops b.tmps) := by
  unfold Region.wanted
  cases hg : o.guard with
  | none => rfl
  | some gw =>
    obtain ⟨g, want⟩ := gw
    have : yielded ops a.tmps g = yielded ops b.tmps g := by
      unfold yielded
      cases ht : (ops[g]?).bind (·.dst) with
      | none => rfl
      | some t =>
        have := h.at_ t (by simp [Oper.looksAt, hg, ht])
        simp [this]
    simp only [this]
theorem range_val {val : Nat → Value} {n j : Nat} (h : j < n) : ((List.range n).map val).getD j undef = val j := by simp [h]
/-- what is asked of the region's text alone -/
def rgB (ops : Array Oper) (n : Nat) : Bool :=
  Region.noSelect ops && decide (n < ops.size) && Region.sinkB .any ops n && Region.chainB .any ops n &&
  Region.seqB .any ops (ops.size - n) n (Array.replicate n true ++ Array.replicate (ops.size - n) false) &&
  ((List.range n).all fun i => match ops[i]? with
    | none => false
    | some o => o.dst.isSome && (waits o).all (fun j => decide (j < i)) &&
      (o.looksAt ops).all (fun t => (List.range n).all fun j => dstOf ops j != some t || (waits o).contains j) &&
      (List.range n).all (fun j => j == i || dstOf ops j != o.dst))
structure RgText (ops : Array Oper) (n : Nat) : Prop where
  sel : Region.noSelect ops = true
  lt : n < ops.size
  sink : Region.sinkB .any ops n = true
  chain : Region.chainB .any ops n = true
  seq : Region.seqB .any ops (ops.size - n) n (Array.replicate n true ++ Array.replicate (ops.size - n) false) = true
  op : ∀ i, i < n → ∃ o d, ops[i]? = some o ∧ o.dst = some d ∧ (∀ j ∈ waits o, j < i) ∧ (∀ t ∈ o.looksAt ops, ∀ j, j < n → dstOf ops j = some t → j ∈ waits o) ∧ (∀ j, j < n → j ≠ i → dstOf ops j ≠ some d)
theorem rgText {n : Nat} (h : rgB ops n = true) : RgText ops n := by
  unfold rgB at h
  simp only [Bool.and_eq_true, decide_eq_true_eq] at h
  obtain ⟨⟨⟨⟨⟨h1, h2⟩, h3⟩, h4⟩, h5⟩, h6⟩ := h
  refine ⟨h1, h2, h3, h4, h5, fun i hi => ?_⟩
  have h7 := List.all_eq_true.1 h6 i (List.mem_range.2 hi)
  cases ho : ops[i]? with
  | none => simp [ho] at h7
  | some o =>
    simp only [ho, Bool.and_eq_true] at h7
    obtain ⟨⟨⟨h8, h9⟩, h10⟩, h11⟩ := h7
    cases hd : o.dst with
    | none => simp [hd] at h8
    | some d =>
      refine ⟨o, d, rfl, hd, fun j hj => by simpa using List.all_eq_true.1 h9 j hj, fun t ht j hj hjt => ?_, fun j hj hne he => ?_⟩
      · have := List.all_eq_true.1 (List.all_eq_true.1 h10 t ht) j (List.mem_range.2 hj)
        simpa [hjt] using this
      · have := List.all_eq_true.1 h11 j (List.mem_range.2 hj)
        simp [he, hd, hne] at this
theorem mem_waits {o : Oper} {j : Nat} : j ∈ waits o ↔ ∃ e ∈ o.after, Region.binds .any e = true ∧ e.on = j := by
  unfold waits
  rw [List.mem_filterMap]
  constructor
  · rintro ⟨e, he, h⟩
    by_cases hb : Region.binds .any e = true
    · rw [if_pos hb] at h
      exact ⟨e, by simpa using he, hb, Option.some.inj h⟩
    · rw [if_neg hb] at h
      cases h
  · rintro ⟨e, he, hb, rfl⟩
    exact ⟨e, by simpa using he, by rw [if_pos hb]⟩
def unl (n : Nat) (listed : Array Bool) : Nat := ((List.range n).filter fun i => !listed.getD i false).length
/-- the heart: whatever order is drawn -/
theorem rg_any {n e : Nat} {C B : World → Prop} {R : Nat → World → World → Prop} {V : Nat → Value → World → Prop} {Q : Exit → Act → World → Prop} {l : List Oper} {a0 : Act} (T : RgText l.toArray n)
    (hRC : ∀ k w w', k < n → C w → R k w w' → C w') (hRV : ∀ j k v w w', j < n → k < n → j ≠ k → V j v w → C w → R k w w' → V j v w')
    (hRB : ∀ k w w', k < n → k ≠ e → B w → R k w w' → B w')
    (hwalk : rgWalk P l.toArray C B e R V (fun vs a' => ∀ w', C w' → needs V vs w' (List.range n) → wpList P l.toArray Q (l.drop n) a' w') [] 0 (l.take n) a0) :
    ∀ (f : Nat) (listed : Array Bool) (val : Nat → Value) (w : World), unl n listed = f → HeadInv .any l.toArray n listed → C w → (listed.getD e false = false → B w) →
      (∀ j, j < n → listed.getD j false = true → V j (val j) w) →
      wpAny P .any l.toArray Q (f + (l.toArray.size - n)) listed (putsX (fun j => listed.getD j false) val 0 (l.take n) a0) w := by
  have hn : n < l.length := by simpa using T.lt
  have htl : (l.take n).length = n := by simp; omega
  have hops : ∀ i : Nat, l.toArray[i]? = l[i]? := fun i => by simp
  have hsel := Region.noSelect_spec T.sel
  intro f
  induction f with
  | zero =>
    intro listed val w hu inv hC hBl hV
    have hall : ∀ i, i < n → listed.getD i false = true := fun i hi => by
      rcases hh : listed.getD i false with _ | _
      · have : i ∈ (List.range n).filter fun i => !listed.getD i false := List.mem_filter.2 ⟨List.mem_range.2 hi, by rw [hh]; rfl⟩
        unfold unl at hu
        rw [List.length_eq_zero_iff.1 hu] at this
        cases this
      · rfl
    have hlisted : listed = Array.replicate n true ++ Array.replicate (l.toArray.size - n) false := by
      apply Array.ext
      · simp [inv.size]; omega
      · intro i h1 h2
        by_cases hi : i < n
        · have := hall i hi
          simp [h1] at this
          rw [this]
          simp [hi]
        · have := inv.tail i (by omega) (by rw [← inv.size]; exact h1)
          simp [h1] at this
          rw [this]
          simp [Array.getElem_append, hi]
    have hfr : putsX (fun j => listed.getD j false) val 0 (l.take n) a0 = putsX (fun _ => true) val 0 (l.take n) a0 :=
      putsX_congr _ _ _ fun j _ hj => ⟨hall j (by rw [htl] at hj; omega), fun _ => rfl⟩
    have hend := rgWalk_end val (l.take n) 0 a0 hwalk
    rw [hfr]
    have := hend w hC (fun j hj => by
      have hj' := List.mem_range.1 hj
      rw [range_val (by rw [htl]; omega)]
      exact hV j hj' (hall j hj'))
    rw [Nat.zero_add]
    have h2 := wpAny_of_seq (md := .any) (Q' := Q) (l.drop n) n listed (putsX (fun _ => true) val 0 (l.take n) a0) w (fun j => by simp [List.getElem?_drop]) (by
      rw [hlisted]; have := T.seq; simpa using this) this
    simpa using h2
  | succ f ih =>
    intro listed val w hu inv hC hBl hV
    -- there is a head operation that may come up
    have hex : ∃ i, i < n ∧ listed.getD i false = false := by
      unfold unl at hu
      have : (List.range n).filter (fun i => !listed.getD i false) ≠ [] := fun h => by rw [h] at hu; simp at hu
      obtain ⟨i, hi⟩ := List.exists_mem_of_ne_nil _ this
      rw [List.mem_filter] at hi
      exact ⟨i, List.mem_range.1 hi.1, by simpa using hi.2⟩
    have hready : ∀ m, (∀ i, i < m → i < n → listed.getD i false = true) ∨ ∃ i, i < n ∧ i ∈ Region.ready .any l.toArray listed := by
      intro m
      induction m with
      | zero => exact .inl fun i h => by omega
      | succ m ihm =>
        rcases ihm with h | h
        · by_cases hm : m < n
          · rcases hh : listed.getD m false with _ | _
            · refine .inr ⟨m, hm, ?_⟩
              obtain ⟨o, d, ho, hd, hw, _⟩ := T.op m hm
              refine mem_ready.2 ⟨getD_in (by rw [inv.size]; have := T.lt; omega) hh, o, ho, fun e he hb => ?_⟩
              have := hw e.on (mem_waits.2 ⟨e, he, hb, rfl⟩)
              exact h e.on this (by omega)
            · refine .inl fun i hi hin => ?_
              by_cases him : i = m
              · subst him; exact hh
              · exact h i (by omega) hin
          · exact .inl fun i hi hin => h i (by omega) hin
        · exact .inr h
    obtain ⟨i0, hi0, hi0f⟩ := hex
    have hne : Region.ready .any l.toArray listed ≠ [] := by
      rcases hready (i0 + 1) with h | ⟨i, _, hi⟩
      · have := h i0 (by omega) hi0
        rw [hi0f] at this
        cases this
      · intro he
        rw [he] at hi
        cases hi
    rw [show f + 1 + (l.toArray.size - n) = (f + (l.toArray.size - n)) + 1 by omega]
    refine ⟨fun h => absurd h hne, fun i hi => ?_⟩
    have hin : i < n := by
      rcases Nat.lt_or_ge i n with h | h
      · exact h
      · exact absurd hi (tail_waits T.sink T.chain T.lt inv _ i0 rfl hi0 (getD_in (by rw [inv.size]; have := T.lt; omega) hi0f) i h)
    obtain ⟨o, d, ho, hd, hw, hlook, huniq⟩ := T.op i hin
    obtain ⟨hun, o', ho', hall⟩ := mem_ready.1 hi
    have heq : o' = o := Option.some.inj (ho'.symm.trans ho)
    subst heq
    have hlo : (l.take n)[i - 0]? = some o' := by rw [Nat.sub_zero, List.getElem?_take, if_pos hin, ← hops]; exact ho
    have hwl : ∀ j ∈ waits o', listed.getD j false = true := fun j hj => by
      obtain ⟨e, he, hb, rfl⟩ := mem_waits.1 hj
      exact hall e he hb
    have hiun : listed.getD i false = false := getD_both hun
    have hdst : ∀ j (p : Oper), (l.take n)[j]? = some p → j < n ∧ dstOf l.toArray j = p.dst := fun j p hj => by
      have hj' : j < n := by
        have := (List.getElem?_eq_some_iff.1 hj).1
        rw [htl] at this
        exact this
      rw [List.getElem?_take, if_pos hj'] at hj
      exact ⟨hj', by unfold dstOf; rw [hops, hj]; rfl⟩
    have hal : Alike (o'.looksAt l.toArray) (putsX (fun j => listed.getD j false) val 0 (l.take n) a0) (putsX (fun j => decide (j < i)) val 0 (l.take n) a0) :=
      alike_puts _ _ _ _ ⟨rfl, fun _ _ => rfl⟩ fun j p t hj ht hS => by
        obtain ⟨hj', hjd⟩ := hdst j p hj
        have hjw := hlook t hS j hj' (hjd.trans ht)
        rw [Nat.zero_add, hwl j hjw]
        simp [hw j hjw]
    have hob := rgWalk_at val (l.take n) 0 a0 hwalk i o' (Nat.zero_le _) hlo w hC (fun hie => hBl (hie ▸ getD_both hun)) (fun j hj => by
      have := hw j hj
      rw [range_val this]
      exact hV j (by omega) (hwl j hj))
    -- what is known behind the operation
    have next : ∀ v w', R i w w' ∨ w' = w → V i v w' → wpAny P .any l.toArray Q (f + (l.toArray.size - n)) (listed.setIfInBounds i true) ((putsX (fun j => listed.getD j false) val 0 (l.take n) a0).put o'.dst v) w' := by
      intro v w' hR hVi
      have hilt : i < listed.size := by rw [inv.size]; have := T.lt; omega
      have hset : ∀ j, (listed.setIfInBounds i true).getD j false = (listed.getD j false || decide (j = i)) := fun j => by
        by_cases hj : j = i
        · subst hj; simp [hilt]
        · rw [getD_set_ne false (Ne.symm hj)]; simp [hj]
      have hfr := putsX_more (X := fun j => listed.getD j false) (val := val) (i := i) (o := o') (v := v) (l.take n) 0 a0 (Nat.zero_le _) hlo (fun j p hj hne t ht => by
        obtain ⟨hj', hjd⟩ := hdst j p hj
        rw [← hjd]
        rw [hd] at ht
        obtain rfl : d = t := by simpa using ht
        exact huniq j hj' (by omega)) hiun
      have hfr2 : putsX (fun j => (listed.setIfInBounds i true).getD j false) (fun j => if j = i then v else val j) 0 (l.take n) a0 = (putsX (fun j => listed.getD j false) val 0 (l.take n) a0).put o'.dst v := by
        rw [← hfr]
        exact putsX_congr _ _ _ fun j _ _ => ⟨hset j, fun _ => rfl⟩
      rw [← hfr2]
      have hC' : C w' := by
        rcases hR with h | h
        · exact hRC i _ _ hin hC h
        · rw [h]; exact hC
      have hB' : (listed.setIfInBounds i true).getD e false = false → B w' := fun hl => by
        rw [hset, Bool.or_eq_false_iff] at hl
        have hne : e ≠ i := by simpa using hl.2
        rcases hR with h | h
        · exact hRB i _ _ hin (Ne.symm hne) (hBl hl.1) h
        · rw [h]; exact hBl hl.1
      refine ih _ _ w' ?_ (inv.set hi hin) hC' hB' fun j hj hjl => ?_
      · unfold unl at hu ⊢
        have hnd : (List.range n).Nodup := List.nodup_range
        have hfil : (List.range n).filter (fun k => !(listed.setIfInBounds i true).getD k false) = ((List.range n).filter fun k => !listed.getD k false).erase i := by
          rw [List.Nodup.erase_eq_filter (hnd.filter _), List.filter_filter]
          refine List.filter_congr fun k _ => ?_
          rw [hset k]
          by_cases hk : k = i <;> simp [hk]
        rw [hfil, List.length_erase_of_mem (by rw [List.mem_filter]; exact ⟨List.mem_range.2 hin, by simp only [hiun, Bool.not_false]⟩)]
        omega
      · by_cases hji : j = i
        · subst hji
          simpa using hVi
        · have hjl' : listed.getD j false = true := by rw [hset] at hjl; simpa [hji] using hjl
          have h3 := hV j hj hjl'
          rw [if_neg hji]
          rcases hR with h | h
          · exact hRV j i _ _ _ hj hin hji h3 hC h
          · rw [h]; exact h3
    unfold wpOp
    simp only [ho]
    rw [alike_wanted hal]
    split
    · rename_i hwt
      rw [if_pos hwt] at hob
      exact .inl (wp_of_grow hob (alike_exec (hsel i o' · · ho) hal) fun v w' hT => next v w' (.inl hT.1) hT.2)
    · rename_i hwt
      rw [if_neg hwt] at hob
      exact next undef w (.inr rfl) hob
/-- **the law**: C is what holds of every world on the way, R what an operation may do to it, V what an operation's value is good for -/
theorem wp_region_rg {id : Nat} {Q : Exit → Act → World → Prop} {a : Act} {w : World} {l : List Oper} (n e : Nat) (C B : World → Prop) (R : Nat → World → World → Prop) (V : Nat → Value → World → Prop)
    (hm : P.follows .mixedOrders = true) (hB : rgB l.toArray n = true)
    (hRC : ∀ k w w', k < n → C w → R k w w' → C w') (hRV : ∀ j k v w w', j < n → k < n → j ≠ k → V j v w → C w → R k w w' → V j v w') (hRB : ∀ k w w', k < n → k ≠ e → B w → R k w w' → B w')
    (hC : C { w with drawn := w.drawn + 1 }) (hB0 : B { w with drawn := w.drawn + 1 })
    (hwalk : rgWalk P l.toArray C B e R V (fun vs a' => ∀ w', C w' → needs V vs w' (List.range n) → wpList P l.toArray Q (l.drop n) a' w') [] 0 (l.take n) a) :
    (Code.region id l.toArray true).wp P Q a w := by
  refine wp_region_any hm ?_
  have T := rgText hB
  have hn : n < l.length := by simpa using T.lt
  have hnone : ∀ (l' : List Oper) (k : Nat) (a' : Act), putsX (fun j => (Array.replicate l.toArray.size false).getD j false) (fun _ => undef) k l' a' = a' := by
    intro l'
    induction l' with
    | nil => intros; rfl
    | cons o rest ih => intro k a'; unfold putsX; rw [getD_replicate_false]; exact ih _ _
  have := rg_any (f := n) T hRC hRV hRB hwalk (Array.replicate l.toArray.size false) (fun _ => undef) { w with drawn := w.drawn + 1 }
    (by unfold unl; rw [List.filter_eq_self.2 (fun i _ => by rw [getD_replicate_false]; rfl)]; simp)
    ⟨by simp, fun j oj _ hl => (by rw [getD_replicate_false] at hl; cases hl), fun t _ ht => getD_in (by simpa using ht) (getD_replicate_false _ _)⟩ hC (fun _ => hB0)
    (fun j _ hj => by rw [getD_replicate_false] at hj; cases hj)
  rw [hnone] at this
  have hs : n + (l.toArray.size - n) = l.toArray.size := by simp; omega
  rw [hs] at this
  exact this
end
end Go.Proofs.Ytplabnjdhkmmkaa
end
section
set_option linter.unusedSimpArgs false
set_option linter.unusedVariables false
namespace Go.Proofs.Ytplabnjdhkmmkaa
abbrev VP := Value → World → Prop
/-- the value is known -/
def kon (c : Value) : VP := fun v _ => v = c
def vAt (Vs : List VP) (k : Nat) : VP := Vs.getD k (fun _ _ => True)
/-- what holds of a value when the world has grown, or when blocks of T have changed -/
def keeps (T : Nat → Prop) (V : VP) : Prop := ∀ v w w', V v w → Chg T w w' → V v w'
theorem keeps_kon {T : Nat → Prop} (c : Value) : keeps T (kon c) := fun _ _ _ h _ => h
def allKeep : List VP → Prop
  | [] => True
  | V :: l => keeps Nowhere V ∧ allKeep l
def allBut (T : Nat → Prop) (e : Nat) : Nat → List VP → Prop
  | _, [] => True
  | k, V :: l => (k = e ∨ keeps T V) ∧ allBut T e (k + 1) l
theorem allKeep_at : ∀ {Vs : List VP} (k : Nat), k < Vs.length → allKeep Vs → keeps Nowhere (vAt Vs k)
  | [], _, h, _ => by simp at h
  | _ :: _, 0, _, h => h.1
  | _ :: l, k + 1, hk, h => allKeep_at (Vs := l) k (by simpa using hk) h.2
theorem allBut_at {T : Nat → Prop} {e : Nat} : ∀ {Vs : List VP} (i k : Nat), k < Vs.length → i + k ≠ e → allBut T e i Vs → keeps T (vAt Vs k)
  | [], _, _, h, _, _ => by simp at h
  | _ :: _, i, 0, _, hn, h => h.1.resolve_left (by simpa using hn)
  | _ :: l, i, k + 1, hk, hn, h => allBut_at (Vs := l) (i + 1) k (by simpa using hk) (by omega) h.2
theorem allBut_none : ∀ {e : Nat} {Vs : List VP} (i : Nat), allKeep Vs → allBut Nowhere e i Vs
  | _, [], _, _ => trivial
  | _, _ :: _, i, h => ⟨.inr h.1, allBut_none (i + 1) h.2⟩
def rgR (T : Nat → Prop) (e k : Nat) (w w' : World) : Prop := if k = e then Chg T w w' else Up w w'
theorem rg_up {T : Nat → Prop} {e k : Nat} {w w' : World} (h : Up w w') : rgR T e k w w' := by
  unfold rgR; split
  · exact Chg.of_up h
  · exact h
theorem rg_eff {T : Nat → Prop} {e : Nat} {w w' : World} (h : Chg T w w') : rgR T e e w w' := by unfold rgR; rw [if_pos rfl]; exact h
/-- a slot's value: the region's own writes first -/
def lookE (t : Nat) : List (Nat × Value) → Option Value
  | [] => none
  | (s, v) :: l => match Nat.beq s t with
    | true => some v
    | false => lookE t l
def evalE (ρ : Operand → Value) (env : List (Nat × Value)) : Operand → Value
  | .tmp t => match lookE t env with
    | some v => v
    | none => ρ (.tmp t)
  | x => ρ x
def valL (j : Nat) (vs : List (Nat × Value)) : Value := match lookE j vs with
  | some v => v
  | none => undef
def needsL (Vs : List VP) (vs : List (Nat × Value)) (w : World) : List Nat → Prop
  | [] => True
  | j :: l => vAt Vs j (valL j vs) w ∧ needsL Vs vs w l
def allL (Vs : List VP) : List (Nat × Value) → World → Prop
  | [], _ => True
  | (k, v) :: l, w => vAt Vs k v w ∧ allL Vs l w
section
variable {P : Program}
/-- the walk; no operation stands under a guard; of each operation: its number, its slot, what it waits for -/
def walkL (P : Program) (T : Nat → Prop) (e : Nat) (Vs : List VP) (w0 : World) (ρ : Operand → Value) (Q : List (Nat × Value) → Act → Prop) : List (Nat × Value) → List (Nat × Value) → List (Nat × Nat × List Nat) → List Oper → Act → Prop
  | env, vs, (k, d, ws) :: wss, o :: rest, a => (∀ w, Chg T w0 w → (k = e → Up w0 w) → needsL Vs vs w ws → growUpon P (fun v w' => rgR T e k w w' ∧ vAt Vs k v w') ((execOp (evalE ρ env) o).run P w)) ∧
      ∀ v, walkL P T e Vs w0 ρ Q ((d, v) :: env) ((k, v) :: vs) wss rest (a.put o.dst v)
  | _, vs, _, _, a => Q vs a
def specOf : Nat → List Oper → List (Nat × Nat × List Nat)
  | _, [] => []
  | k, o :: l => (k, o.dst.getD 0, waits o) :: specOf (k + 1) l
theorem needsL_of {Vs : List VP} {vs : List (Nat × Value)} {w : World} {vl : List Value} : ∀ {ws : List Nat}, (∀ j ∈ ws, valL j vs = vl.getD j undef) → needs (vAt Vs) vl w ws → needsL Vs vs w ws
  | [], _, _ => trivial
  | j :: l, h, hn => ⟨by rw [h j (by simp)]; exact hn j (by simp), needsL_of (fun i hi => h i (by simp [hi])) fun i hi => hn i (by simp [hi])⟩
theorem look_other {t s : Nat} {v : Value} {l : List (Nat × Value)} (h : s ≠ t) : lookE t ((s, v) :: l) = lookE t l := by
  have : Nat.beq s t = false := by
    rcases hh : Nat.beq s t with _ | _
    · rfl
    · exact absurd (Nat.eq_of_beq_eq_true hh) h
  show (match Nat.beq s t with | true => some v | false => lookE t l) = _
  rw [this]
theorem look_same {t : Nat} {v : Value} {l : List (Nat × Value)} : lookE t ((t, v) :: l) = some v := by
  have : Nat.beq t t = true := Nat.beq_refl t
  show (match Nat.beq t t with | true => some v | false => lookE t l) = _
  rw [this]
theorem valL_other {t s : Nat} {v : Value} {l : List (Nat × Value)} (h : s ≠ t) : valL t ((s, v) :: l) = valL t l := by unfold valL; rw [look_other h]
theorem valL_same {t : Nat} {v : Value} {l : List (Nat × Value)} : valL t ((t, v) :: l) = v := by unfold valL; rw [look_same]
theorem evalE_other {ρ : Operand → Value} {t s : Nat} {v : Value} {l : List (Nat × Value)} (h : s ≠ t) : evalE ρ ((s, v) :: l) (.tmp t) = evalE ρ l (.tmp t) := by
  show (match lookE t ((s, v) :: l) with | some v => v | none => ρ (.tmp t)) = _
  rw [look_other h]
  rfl
theorem evalE_same {ρ : Operand → Value} {t : Nat} {v : Value} {l : List (Nat × Value)} : evalE ρ ((t, v) :: l) (.tmp t) = v := by
  show (match lookE t ((t, v) :: l) with | some v => v | none => ρ (.tmp t)) = _
  rw [look_same]
theorem walk_of {ops : Array Oper} {T : Nat → Prop} {e : Nat} {Vs : List VP} {w0 : World} {a0 : Act} {Q : List (Nat × Value) → Act → Prop} {Q' : List Value → Act → Prop} {n : Nat} (hQ : ∀ (vs : List (Nat × Value)) (vl : List Value) a, vl.length = n → (∀ x ∈ vs, x.1 < n ∧ x.2 = vl.getD x.1 undef) → Q vs a → Q' vl a) :
    ∀ (l : List Oper) (wss : List (Nat × Nat × List Nat)) (env vs : List (Nat × Value)) (vl : List Value) (k : Nat) (a : Act), vl.length = k → k + l.length = n → specOf k l = wss → (∀ o ∈ l, o.guard = none ∧ (∀ cs b, o.op ≠ .select cs b) ∧ ∃ d, o.dst = some d ∧ d < a0.tmps.size) →
      (∀ i o, l[i]? = some o → ∀ j ∈ waits o, j < k + i) → a.tmps.size = a0.tmps.size → (∀ x, evalE a0.eval env x = a.eval x) → (∀ j, j < k → valL j vs = vl.getD j undef) → (∀ x ∈ vs, x.1 < k ∧ x.2 = vl.getD x.1 undef) →
      walkL P T e Vs w0 a0.eval Q env vs wss l a → rgWalk P ops (Chg T w0) (Up w0) e (rgR T e) (vAt Vs) Q' vl k l a
  | [], wss, env, vs, vl, k, a, hk, hn, hw, ho, hj, hs, hE, hv, hv2, h => by
    obtain rfl : wss = [] := hw.symm
    obtain rfl : k = n := by simpa using hn
    exact hQ vs vl a hk hv2 h
  | o :: rest, wss, env, vs, vl, k, a, hk, hn, hw, ho, hj, hs, hE, hv, hv2, h => by
    obtain rfl : wss = (k, o.dst.getD 0, waits o) :: specOf (k + 1) rest := hw.symm
    obtain ⟨hg, hsel, d, hd, hdl⟩ := ho o (by simp)
    have hsn : ∀ (v : Value) (j : Nat), j < k → (vl ++ [v]).getD j undef = vl.getD j undef := fun v j hj => by
      rw [List.getD_eq_getElem?_getD, List.getD_eq_getElem?_getD, List.getElem?_append_left (by omega)]
    refine ⟨fun w hc hup hnd => ?_, fun v => ?_⟩
    · have hwt : Region.wanted o (yielded ops a.tmps) = true := by simp [Region.wanted, hg]
      rw [if_pos hwt]
      have := h.1 w hc hup (needsL_of (fun j hj' => hv j (by have := hj 0 o (by simp) j hj'; omega)) hnd)
      unfold grow
      rwa [execOp_congr (ρ := a.eval) (ρ' := evalE a0.eval env) o hsel fun x _ => (hE x).symm]
    · refine walk_of hQ rest _ ((o.dst.getD 0, v) :: env) ((k, v) :: vs) (vl ++ [v]) (k + 1) _ (by simp [hk]) (by simp at hn; omega) rfl (fun o' ho' => ho o' (by simp [ho'])) (fun i o' hi j hj' => by
          have := hj (i + 1) o' (by simpa using hi) j hj'; omega) ?_ ?_ ?_ ?_ (h.2 v)
      · rw [hd]; simp [Act.put, hs]
      · intro x
        rw [hd]
        simp only [Option.getD_some]
        cases x with
        | tmp t =>
          by_cases hdt : d = t
          · subst hdt
            rw [evalE_same]
            simp [Act.put, Act.eval, hs, hdl]
          · rw [evalE_other hdt, Act.eval_put (fun d' hd' he => by injection hd' with hd'; injection he with he; exact hdt (hd'.trans he.symm))]
            exact hE (.tmp t)
        | const c => exact hE (.const c)
        | global c => exact hE (.global c)
        | func c => exact hE (.func c)
      · intro j hj
        by_cases hjk : j = k
        · subst hjk
          rw [valL_same]
          simp [← hk]
        · rw [valL_other (Ne.symm hjk), hsn v j (by omega)]
          exact hv j (by omega)
      · intro x hx
        rcases List.mem_cons.1 hx with rfl | hx
        · exact ⟨by simp, by simp [← hk]⟩
        · obtain ⟨h1, h2⟩ := hv2 x hx
          exact ⟨by omega, by rw [hsn v _ h1]; exact h2⟩
/-- what is asked of the text: no guards, slots within the frame -/
def txtB (l : List Oper) (wss : List (Nat × Nat × List Nat)) (sz : Nat) : Bool := l.all (fun o => o.guard.isNone && (match o.dst with | some d => decide (d < sz) | none => false)) && decide (specOf 0 l = wss)
theorem allL_of {Vs : List VP} {w : World} : ∀ {l : List (Nat × Value)}, (∀ x ∈ l, vAt Vs x.1 x.2 w) → allL Vs l w
  | [], _ => trivial
  | x :: l, h => ⟨h x (by simp), allL_of fun y hy => h y (by simp [hy])⟩
theorem wp_region_l {id : Nat} {Q : Exit → Act → World → Prop} {a : Act} {w : World} {l : List Oper} (sz : Nat) (T : Nat → Prop) (e : Nat) (Vs : List VP) (wss : List (Nat × Nat × List Nat))
    (hm : P.follows .mixedOrders = true) (hB : rgB l.toArray Vs.length = true) (hX : txtB (l.take Vs.length) wss sz = true) (hsz : a.tmps.size = sz) (hK : allKeep Vs) (hT : allBut T e 0 Vs)
    (hwalk : walkL P T e Vs w a.eval (fun vs a' => ∀ w', Chg T w w' → allL Vs vs w' → wpList P l.toArray Q (l.drop Vs.length) a' w') [] [] wss (l.take Vs.length) a) :
    (Code.region id l.toArray true).wp P Q a w := by
  have R := rgText hB
  have hlen : Vs.length < l.length := by have := R.lt; simpa using this
  unfold txtB at hX
  simp only [Bool.and_eq_true, decide_eq_true_eq] at hX
  obtain ⟨h1, h2⟩ := hX
  have hget : ∀ i o, (l.take Vs.length)[i]? = some o → i < Vs.length ∧ l.toArray[i]? = some o := fun i o hi => by
    have := (List.getElem?_eq_some_iff.1 hi).1
    simp at this
    refine ⟨by omega, ?_⟩
    rw [List.getElem?_take, if_pos (by omega)] at hi
    simpa using hi
  refine wp_region_rg Vs.length e (Chg T w) (Up w) (rgR T e) (vAt Vs) hm hB
    (fun k w1 w2 _ h h2 => by
      unfold rgR at h2
      split at h2
      · exact Chg.trans h h2
      · exact Chg.trans h (Chg.of_up h2))
    (fun j k v w1 w2 hj hk hjk hv _ h2 => by
      unfold rgR at h2
      split at h2
      · rename_i he
        exact allBut_at 0 j hj (by omega) hT v w1 w2 hv h2
      · exact allKeep_at j hj hK v w1 w2 hv h2)
    (fun k w1 w2 _ hne h h2 => by
      unfold rgR at h2
      rw [if_neg hne] at h2
      exact Chg.trans h h2)
    ((Chg.refl _ _).drew) ((Chg.refl _ _).drew) ?_
  refine walk_of (n := Vs.length) (fun vs vl a' hl hv h w' hc hn => ?_) (l.take Vs.length) wss [] [] [] 0 a rfl (by simp; omega) h2 (fun o ho => ?_) (fun i o hi j hj => ?_) rfl (fun x => by cases x <;> rfl) (fun j hj => by omega) (fun x hx => by cases hx) hwalk
  · refine h w' hc ?_
    refine allL_of fun x hx => ?_
    obtain ⟨h3, h4⟩ := hv x hx
    rw [h4]
    exact hn x.1 (List.mem_range.2 h3)
  · have h3 := List.all_eq_true.1 h1 o ho
    simp only [Bool.and_eq_true] at h3
    obtain ⟨i, hi⟩ := List.getElem?_of_mem ho
    refine ⟨by simpa using h3.1, fun cs b => Region.noSelect_spec R.sel i o cs b (hget i o hi).2, ?_⟩
    cases hd : o.dst with
    | none => simp [hd] at h3
    | some d => exact ⟨d, rfl, by simpa [hd, hsz] using h3.2⟩
  · obtain ⟨hi', ho⟩ := hget i o hi
    obtain ⟨o', d, ho', _, hw, _⟩ := R.op i hi'
    obtain rfl : o' = o := Option.some.inj (ho'.symm.trans ho)
    rw [Nat.zero_add]
    exact hw j hj
theorem grow_ok {o : Oper} {ρ : Operand → Value} {w w' : World} {v : Value} {T : Nat → Prop} {e k : Nat} {V : VP} (h : (execOp ρ o).run P w = .ok (.value v) w') (hR : rgR T e k w w') (hV : V v w') : growUpon P (fun v w' => rgR T e k w w' ∧ V v w') ((execOp ρ o).run P w) := by
  rw [h]
  exact ⟨hR, hV⟩
theorem grow_same {o : Oper} {ρ : Operand → Value} {w : World} {v : Value} {T : Nat → Prop} {e k : Nat} {V : VP} (h : (execOp ρ o).run P w = .ok (.value v) w) (hV : V v w) : growUpon P (fun v w' => rgR T e k w w' ∧ V v w') ((execOp ρ o).run P w) :=
  grow_ok h (rg_up (Chg.refl _ _)) hV
theorem grow_ex {o : Oper} {ρ : Operand → Value} {w : World} {T : Nat → Prop} {e k : Nat} {V : VP} {A : Value → World → Prop} (h : ∃ v' w', (execOp ρ o).run P w = .ok (.value v') w' ∧ A v' w') (hk : ∀ v' w', A v' w' → rgR T e k w w' ∧ V v' w') : growUpon P (fun v w' => rgR T e k w w' ∧ V v w') ((execOp ρ o).run P w) := by
  obtain ⟨v', w', hr, ha⟩ := h
  rw [hr]
  exact hk _ _ ha
theorem grow_call {o : Oper} {ρ : Operand → Value} {w : World} {f : FuncId} {args : Array Value} {T : Nat → Prop} {e k : Nat} {V : VP} (h : (execOp ρ o).run P w = .ok (.enter f args) w) (hc : Calls P f args w fun en w' => ∃ v, en = .returned v ∧ rgR T e k w w' ∧ V v w') : growUpon P (fun v w' => rgR T e k w w' ∧ V v w') ((execOp ρ o).run P w) := by
  rw [h]
  exact hc
/-- the operations -/
theorem x_move {ρ : Operand → Value} {o : Oper} {w : World} {v : Value} (x : Operand) (ho : o.op = .move x) (hx : ρ x = v) : (execOp ρ o).run P w = .ok (.value v) w := by
  unfold execOp; rw [ho]; simp [hx]
theorem x_nil {ρ : Operand → Value} {o : Oper} {w : World} {p : Addr} (x : Operand) (ho : o.op = .nilCheck x) (hx : ρ x = .pointer (some p)) : (execOp ρ o).run P w = .ok (.value (.pointer (some p))) w := by
  unfold execOp; rw [ho]; simp [hx]
theorem x_load {ρ : Operand → Value} {o : Oper} {w : World} {q v : Value} (t : TypeId) (x : Operand) (ho : o.op = .load t x) (hx : ρ x = q) (h : (Instr.loadAt t q).run P w = .ok v w) : (execOp ρ o).run P w = .ok (.value v) w := by
  unfold execOp; rw [ho]; simp [hx, h, Result.andThen]
theorem x_field {ρ : Operand → Value} {o : Oper} {w : World} {q v : Value} (t : TypeId) (x : Operand) (f : Nat) (ho : o.op = .fieldAddr t x f) (hx : ρ x = q) (h : (Instr.fieldAt t q f).run P w = .ok v w) : (execOp ρ o).run P w = .ok (.value v) w := by
  unfold execOp; rw [ho]; simp [hx, h, Result.andThen]
theorem x_call {ρ : Operand → Value} {o : Oper} {w : World} {f : FuncId} {fn : Func} {args : Array Value} (xs : Array Operand) (ts : Array TypeId) (hfn : P.funcs[f]? = some fn) (hn : (fn.name == "runtime.NumGoroutine") = false) (hb : fn.body.isNone = false)
    (ho : o.op = .call { callee := .value (.func f), args := xs, argTypes := ts }) (hf : ρ (.func f) = .func (.func f) #[] #[]) (hx : xs.map ρ = args) : (execOp ρ o).run P w = .ok (.enter f args) w := by
  unfold execOp
  rw [ho]
  have h1 : ¬ fn.name = "runtime.NumGoroutine" := by simpa using hn
  have h2 : ¬ fn.body = none := fun e => by rw [e] at hb; cases hb
  simp [go_sem, resolve, invoke, Deferred.ofValue, hf, hx, callFunc, hfn, h1, h2, Result.andThen]
end
end Go.Proofs.Ytplabnjdhkmmkaa
end
section
set_option linter.unusedSimpArgs false
set_option linter.unusedVariables false
namespace Go.Proofs.Ytplabnjdhkmmkaa
open Go.ChangeShapes Go.WideShapes Go.ChangeAt Go.RowKit
theorem ld_int (p : Addr) (v : Value) (w : World) (h : w.cell? p = some v) : (Instr.loadAt 2 (.pointer (some p))).run Try.prog w = .ok v w := by go_simp
theorem ld_ints (p : Addr) (v : Value) (w : World) (h : w.cell? p = some v) : (Instr.loadAt 23 (.pointer (some p))).run Try.prog w = .ok v w := by go_simp
theorem ld_infos (p : Addr) (v : Value) (w : World) (h : w.cell? p = some v) : (Instr.loadAt 35 (.pointer (some p))).run Try.prog w = .ok v w := by go_simp
theorem fa_m5 (b : Nat) (w : World) : (Instr.fieldAt 37 (.pointer (some ⟨b, 0, none⟩)) 5).run Try.prog w = .ok (.pointer (some ⟨b, 5, none⟩)) w := by go_simp
theorem fa_m6 (b : Nat) (w : World) : (Instr.fieldAt 37 (.pointer (some ⟨b, 0, none⟩)) 6).run Try.prog w = .ok (.pointer (some ⟨b, 6, none⟩)) w := by go_simp
theorem fa_o0 (b i : Nat) (w : World) : (Instr.fieldAt 76 (.pointer (some ⟨b, i, none⟩)) 0).run Try.prog w = .ok (.pointer (some ⟨b, i, none⟩)) w := by go_simp
theorem fa_o1 (b i : Nat) (w : World) : (Instr.fieldAt 76 (.pointer (some ⟨b, i, none⟩)) 1).run Try.prog w = .ok (.pointer (some ⟨b, i + 1, none⟩)) w := by go_simp
theorem fa_o2 (b i : Nat) (w : World) : (Instr.fieldAt 76 (.pointer (some ⟨b, i, none⟩)) 2).run Try.prog w = .ok (.pointer (some ⟨b, i + 2, none⟩)) w := by go_simp
theorem fa_o4 (b i : Nat) (w : World) : (Instr.fieldAt 76 (.pointer (some ⟨b, i, none⟩)) 4).run Try.prog w = .ok (.pointer (some ⟨b, i + 6, none⟩)) w := by go_simp
theorem fa_n0 (b i : Nat) (w : World) : (Instr.fieldAt 74 (.pointer (some ⟨b, i, none⟩)) 0).run Try.prog w = .ok (.pointer (some ⟨b, i, none⟩)) w := by go_simp
theorem fa_n1 (b i : Nat) (w : World) : (Instr.fieldAt 74 (.pointer (some ⟨b, i, none⟩)) 1).run Try.prog w = .ok (.pointer (some ⟨b, i + 1, none⟩)) w := by go_simp
theorem x_build1 {ρ : Operand → Value} {o : Oper} {w w' : World} {u v : Value} (t : TypeId) (x : Operand) (ho : o.op = .buildSlice t 1 #[(0, x)]) (hx : ρ x = u) (h : (Instr.buildSlice t 1 #[(0, u)]).run Try.prog w = .ok v w') : (execOp ρ o).run Try.prog w = .ok (.value v) w' := by
  unfold execOp; rw [ho]; simp [hx, h, Result.andThen]
theorem x_build {ρ : Operand → Value} {o : Oper} {w : World} {v : Value} (t : TypeId) (ps : Array (Nat × Operand)) (ho : o.op = .build t ps) (qs : Array (Nat × Value)) (hq : (ps.map fun (i, x) => (i, ρ x)) = qs) (h : (Instr.build t qs).run Try.prog w = .ok v w) : (execOp ρ o).run Try.prog w = .ok (.value v) w := by
  unfold execOp; rw [ho]; simp only [hq]; simp [h, Result.andThen]
/-- an append to a row of one's own -/
theorem x_append {ρ : Operand → Value} {o : Oper} {w : World} (s x : Operand) (t : TypeId)
    (ho : o.op = .call { callee := .builtin .append, args := #[s, x], argTypes := #[t, t] })
    (base : Nat) (e : TypeId) (i : TypeInfo) (z : Value) (size bytes : Nat) (ht : Try.prog.underlying t = some (.slice e)) (hi : Try.prog.info? e = some i) (hz : i.zero = some z)
    (hsize : i.size = size) (hby : i.bytes = bytes) (hzs : z.cells.size = size) (hsz : 0 < size)
    (v : Value) (n : Nat) (xs : List Value) (hs : ρ s = v) (hown : w.ownsRow base e size v n xs)
    (ad : Addr) (m c : Nat) (news : List Value) (hx : ρ x = .slice (some ad) m c) (hl : news.length = m * size) (hnews : ∀ j u, news[j]? = some u → w.cell? (ad.add j) = some u) (h1 : ∀ u ∈ news, u.oneCell' = true)
    (h63 : n + m ≤ maxLen) (hbytes : (n + m) * bytes ≤ 140737488355328) (hbase : base ≤ w.heap.size) :
    ∃ v' w', (execOp ρ o).run Try.prog w = .ok (.value v') w' ∧ w'.ownsRow base e size v' (n + m) (xs ++ news) ∧ w.grownBy w' v.ownBlock ∧ (∀ g, v'.ownBlock = some g → v.ownBlock = some g ∨ w.heap.size ≤ g) := by
  obtain ⟨v', w', hr, h2, h3, _⟩ := run_append_own (P := Try.prog) w base t o.type e i z size bytes ht hi hz hsize hby hzs hsz v n xs hown ad m c news hl hnews h1 h63 hbytes hbase
  have h5 := append_block (P := Try.prog) base t o.type e i z size bytes ht hi hz hsize hby hzs hsz v n xs hown ad m c news hl hnews h1 h63 hbytes hr
  refine ⟨v', w', ?_, h2, h3, h5⟩
  unfold execOp
  simp only [ho, resolve, invoke, builtin, Sem.run_bind, Sem.run_pure, Result.andThen_ok, List.map_toArray, List.map_cons, List.map_nil, hs, hx, hr]
end Go.Proofs.Ytplabnjdhkmmkaa
end
section
set_option linter.unusedSimpArgs false
set_option linter.unusedVariables false
namespace Go.Proofs.Ytplabnjdhkmmkaa
open Go.ChangeShapes Go.WideShapes Go.ChangeAt Go.RowKit
/-- where a list lies: its header's row in the bed -/
def AtN (F B : Value) (fs bs : List Value) (b a : Int) (g : Nat) (v : Value) : Prop :=
  (b = 2 ∧ ∃ c, B = .slice (some ⟨g, 0, none⟩) bs.length c ∧ bs.getD a.toNat (.slice none 0 0) = v ∧ a.toNat < bs.length) ∨ (b = 1 ∧ ∃ c, F = .slice (some ⟨g, 0, none⟩) fs.length c ∧ fs.getD a.toNat (.slice none 0 0) = v ∧ a.toNat < fs.length)
/-- a set of blocks that holds all blocks to come -/
def NewIn (S : Nat → Prop) (w : World) : Prop := ∀ b, w.heap.size ≤ b → S b
theorem NewIn.up {S T : Nat → Prop} {w w' : World} (h : NewIn S w) (k : Chg T w w') : NewIn S w' := fun b hb => h b (Nat.le_trans k.size hb)
section
variable {w w1 : World} {K p g : Nat} {S : Nat → Prop} {m : MachM} {F B C L D v v' : Value} {fs bs : List Value} {b a : Int} {l : List Int}
theorem MachX.at_mem (hv : AtN F B fs bs b a g v) : v ∈ F :: B :: C :: L :: D :: (fs ++ bs) ∧ ∃ u ∈ F :: B :: C :: L :: D :: (fs ++ bs), u.ownBlock = some g := by
  rcases hv with ⟨-, c, hB, hv, hl⟩ | ⟨-, c, hF, hv, hl⟩
  · rw [List.getD_eq_getElem?_getD, List.getElem?_eq_getElem hl, Option.getD_some] at hv
    have hm : v ∈ bs := hv ▸ List.getElem_mem hl
    exact ⟨by simp [hm], B, by simp, by rw [hB]; rfl⟩
  · rw [List.getD_eq_getElem?_getD, List.getElem?_eq_getElem hl, Option.getD_some] at hv
    have hm : v ∈ fs := hv ▸ List.getElem_mem hl
    exact ⟨by simp [hm], F, by simp, by rw [hF]; rfl⟩
def setF (fs : List Value) (b a : Int) (v : Value) : List Value := if b = 2 then fs else fs.set a.toNat v
def setB (bs : List Value) (b a : Int) (v : Value) : List Value := if b = 2 then bs.set a.toNat v else bs
theorem MachX.slotX (h : MachX w S K p m F B C L D fs bs) (hS : NewIn S w) (hv : AtN F B fs bs b a g v) (g1 : Chg (fun x => v.ownBlock = some x) w w1) (ho : OwnI w1 0 v' l)
    (hb : ∀ x, v'.ownBlock = some x → v.ownBlock = some x ∨ w.heap.size ≤ x) :
    MachX (w1.setCell ⟨g, a.toNat, none⟩ v') S K p (setM m b a l) F B C L D (setF fs b a v') (setB bs b a v') := by
  rcases hv with ⟨rfl, c, hB, hv, hl⟩ | ⟨rfl, c, hF, hv, hl⟩
  · rw [List.getD_eq_getElem?_getD, List.getElem?_eq_getElem hl, Option.getD_some] at hv
    subst hv
    have := h.slotB hl g1 ho hb hB
    unfold setM setF setB
    rw [if_pos rfl, if_pos rfl, if_pos rfl]
    exact this.mono fun x _ hx => hx.elim id fun h => hS _ h
  · rw [List.getD_eq_getElem?_getD, List.getElem?_eq_getElem hl, Option.getD_some] at hv
    subst hv
    have := h.slotF hl g1 ho hb hF
    unfold setM setF setB
    rw [if_neg (by decide), if_neg (by decide), if_neg (by decide)]
    exact this.mono fun x _ hx => hx.elim id fun h => hS _ h
theorem MachX.slotG (h : MachX w S K p m F B C L D fs bs) (hv : AtN F B fs bs b a g v) (g1 : Chg (fun x => v.ownBlock = some x) w w1) : Chg S w (w1.setCell ⟨g, a.toNat, none⟩ v') := by
  obtain ⟨hm, u, hu, hug⟩ := MachX.at_mem (C := C) (L := L) (D := D) hv
  exact Chg.setCell (g1.mono fun x _ hx => h.own v hm x hx) (.inl (h.own u hu g hug)) _
theorem MachX.slot (h : MachX w S K p m F B C L D fs bs) (hS : NewIn S w) (hv : AtN F B fs bs b a g v) (g1 : Chg (fun x => v.ownBlock = some x) w w1) (ho : OwnI w1 0 v' l)
    (hb : ∀ x, v'.ownBlock = some x → v.ownBlock = some x ∨ w.heap.size ≤ x) :
    (∃ fs' bs', MachX (w1.setCell ⟨g, a.toNat, none⟩ v') S K p (setM m b a l) F B C L D fs' bs') ∧ Chg S w (w1.setCell ⟨g, a.toNat, none⟩ v') :=
  ⟨⟨_, _, h.slotX hS hv g1 ho hb⟩, h.slotG hv g1⟩
end
theorem keepS {w : World} {g i b j : Nat} {u v : Value} (h : w.cell? ⟨b, j, none⟩ = some u) (hn : g ≠ b) : (w.setCell ⟨g, i, none⟩ v).cell? ⟨b, j, none⟩ = some u := by
  rw [World.cell?_setCell_other _ _ _ _ (fun e => hn (by injection e))]
  exact h
theorem Hold.keep {w w' : World} {p : Nat} {b a : Int} {g : Nat} {v : Value} {l : List Int} {T : Nat → Prop} (h : Hold w p b a g v l) (k : Chg T w w') (hp : ¬ T p) (hg : ¬ T g) (hv : ∀ x, v.ownBlock = some x → ¬ T x) : Hold w' p b a g v l :=
  ⟨h.a0, h.hdr.imp (fun ⟨e, n, c, h1, h2, h3, h4⟩ => ⟨e, n, c, h1, h2, h3, h4.keep k hp⟩) (fun ⟨e, n, c, h1, h2, h3, h4⟩ => ⟨e, n, c, h1, h2, h3, h4.keep k hp⟩), h.cell.keep k hg, h.own.kept k hv⟩
/-- two needles on different beds -/
structure Off12 (p g g' : Nat) (v v' : Value) : Prop where
  gg : g ≠ g'
  vg : ¬ v.ownBlock = some g'
  vg' : ¬ v'.ownBlock = some g
  vv : Off2 v v'
  gp : g ≠ p
  gp' : g' ≠ p
  vp : ¬ v.ownBlock = some p
  vp' : ¬ v'.ownBlock = some p
theorem Off12.symm {p g g' : Nat} {v v' : Value} (h : Off12 p g g' v v') : Off12 p g' g v' v := ⟨h.gg.symm, h.vg', h.vg, h.vv.symm, h.gp', h.gp, h.vp', h.vp⟩
theorem OwnI.intsOwn {w : World} {base : Nat} {v : Value} {xs : List Int} (h : OwnI w base v xs) : Ints w (fun b => v.ownBlock = some b) v xs := by
  obtain ⟨h1, h2⟩ := h
  rcases h1.2 with ⟨rfl, h0⟩ | ⟨g, cap, cur, rfl, hg, hh, h3, h4, h5, h6⟩
  · obtain rfl := List.eq_nil_of_length_eq_zero h0
    exact Ints.nil _ _ _ _ (by omega)
  · refine Ints.of_cells rfl (Array.getElem?_eq_some_iff.1 hh).1 h3 (by unfold Go.maxLen at h4; omega) h2 fun t ht => ?_
    have hc := World.ownsRow.cells (g := g) h1 rfl t (.int .i64 xs[t]) (by simp [ht])
    rw [add_zero] at hc
    exact ⟨hc, by simp [World.frozen?, hh]⟩
end Go.Proofs.Ytplabnjdhkmmkaa
end
section
set_option linter.unusedSimpArgs false
set_option linter.unusedVariables false
set_option maxRecDepth 100000
set_option maxHeartbeats 2000000
namespace Go.Proofs.Ytplabnjdhkmmkaa
open Go.ChangeShapes Go.WideShapes Go.ChangeAt Go.RowKit
/-- 'out = append(out, list...)' -/
theorem wp_app_ints {w : World} {ops : Array Oper} {rest : List Oper} {o : Oper} {a : Act} {Q : Exit → Act → World → Prop} (hgd : o.guard = none) (s x : Operand)
    (ho : o.op = .call { callee := .builtin .append, args := #[s, x], argTypes := #[23, 23] })
    (base : Nat) (v : Value) (xs : List Int) (hs : a.eval s = v) (hown : OwnI w base v xs)
    (S : Nat → Prop) (u : Value) (ys : List Int) (hx : a.eval x = u) (hsrc : Ints w S u ys) (hlen : xs.length + ys.length ≤ 1099511627776) (hbase : base ≤ w.heap.size)
    (h : ∀ v' w', OwnI w' base v' (xs ++ ys) → Chg (fun b => v.ownBlock = some b) w w' → (∀ b, v'.ownBlock = some b → v.ownBlock = some b ∨ w.heap.size ≤ b) → Chg (fun k => base ≤ k) w w' → wpList Try.prog ops Q rest (a.put o.dst v') w') : wpList Try.prog ops Q (o :: rest) a w := by
  obtain ⟨i0, hi, hz0, hz1, hz2⟩ := info_parts info2
  obtain ⟨A, c, rfl, hlc, hcm, hok, hr, hnn⟩ := hsrc
  have hok' : ∀ y ∈ xs ++ ys, I64 y := fun y hy => (List.mem_append.1 hy).elim (hown.2 y) (hok y)
  cases A with
  | none =>
    have hy : ys = [] := by
      rcases Nat.eq_zero_or_pos ys.length with h0 | h0
      · exact List.eq_nil_of_length_eq_zero h0
      · obtain ⟨b, oo, h1, _⟩ := hr h0
        cases h1
    subst hy
    obtain rfl := hnn rfl
    refine wpList_append_own_none hgd s x 23 ho base 2 i0 1 Try.underlying23 hi v xs.length _ hs hown.1 hx ?_
    exact h v w (by simpa using hown) (Chg.refl _ _) (fun b hb => .inl hb) (Chg.refl _ _)
  | some ad =>
    have hnews : ∀ j q, (ys.map (Value.int .i64))[j]? = some q → w.cell? (ad.add j) = some q := by
      intro j q hq
      obtain ⟨hj, he⟩ := List.getElem?_eq_some_iff.1 hq
      have hj' : j < ys.length := by simpa using hj
      obtain ⟨b, oo, h1, _, _, hc⟩ := hr (by omega)
      injection h1 with h1
      subst h1
      have := (hc j hj').1
      rw [← he, List.getElem_map, ← this]
      unfold Addr.add
      by_cases h0 : j = 0 <;> simp [h0]
    refine wpList_append_own2 (P := Try.prog) hgd s x 23 ho base 2 i0 (.int .i64 0) 1 8 Try.underlying23 hi hz0 hz1 hz2 rfl (by decide) v xs.length _ hs hown.1 ad ys.length c (ys.map (Value.int .i64)) hx (by simp) hnews ?_ ?_ ?_ hbase ?_
    · intro q hq
      obtain ⟨y, _, rfl⟩ := List.mem_map.1 hq
      rfl
    · unfold Go.maxLen; omega
    · omega
    · intro v' w' h2 h3 h4
      exact h v' w' ⟨by simpa using h2, hok'⟩ (Chg.of_grown h3) h4 ((Chg.refl _ _).grown h3 fun k hk => .inl (hown.1.lt k hk).1)
theorem ownI_any (w : World) (S : Nat → Prop) (v : Value) (xs : List Int) (h : Ints w S v xs) (hl : xs.length ≤ 100000) :
    Calls Try.prog 27 #[v] w fun e w' => ∃ v', e = .returned v' ∧ OwnI w' w.heap.size v' xs ∧ Up w w' := by
  obtain ⟨A, c, rfl, hlc, hcm, -⟩ := h.shape
  have H := Lib.hid h
  have M0 := Lib.hid (OwnI.made w w.heap.size (Nat.le_refl _))
  have HL := Lib.hid (show ([] : List Int).length + xs.length ≤ 1099511627776 by simp; omega)
  clear h
  go_enter Try.func27, Try.ntmps27
  go_wp2_with (first | (at_builtin; refine wp_app_ints rfl _ _ rfl w.heap.size _ ([] : List Int) rfl M0.out _ _ xs rfl (H.out.up (by repeat (first | exact Chg.refl _ _ | apply Chg.drew | apply Chg.drewN | refine Chg.alloc ?_ _))) HL.out (by simp) ?_; intro v' w1 ho1 _ _ hg1; have HO := Lib.hid ho1; have HG := Lib.hid (Chg.new ((Chg.refl Nowhere w).alloc _) hg1 (fun i hi => by omega)); clear ho1 hg1))
  go_ret
  exact ⟨_, rfl, by have := HO.out; rw [List.nil_append] at this; exact this, HG.out⟩
end Go.Proofs.Ytplabnjdhkmmkaa
end
section
set_option linter.unusedSimpArgs false
set_option linter.unusedVariables false
namespace Go.Proofs.Ytplabnjdhkmmkaa
open Go.ChangeShapes Go.WideShapes Go.ChangeAt Go.RowKit
attribute [local go_sem ↓] Go.wp_at_zero Go.wp_at_succ
abbrev infoC (a b c d e : Int) (v : Value) : Array Value := #[.int .i64 a, .int .i64 b, .int .i64 c, .int .i64 d, .int .i64 e, v]
theorem bs_info (a b c d e : Int) (A : Option Addr) (l k : Nat) (w : World) : (Instr.buildSlice 35 1 #[(0, .agg (infoC a b c d e (.slice A l k)))]).run Try.prog w = .ok (.slice (some ⟨w.heap.size, 0, none⟩) 1 1) (w.alloc (.cells (infoC a b c d e (.slice A l k)) 118)) := by go_simp
theorem infoInfo : (Try.prog.info? 118).map (fun i => (i.zero, i.size, i.bytes)) = some (some (.agg (infoC 0 0 0 0 0 (.slice none 0 0))), 6, 64) := by kernel_rfl
theorem bd_info (a b c d e : Int) (A : Option Addr) (l k : Nat) (w : World) : (Instr.build 118 #[(0, .int .i64 a), (1, .int .i64 b), (2, .int .i64 c), (3, .int .i64 d), (4, .int .i64 e), (5, .slice A l k)]).run Try.prog w = .ok (.agg (infoC a b c d e (.slice A l k))) w := by go_simp
end Go.Proofs.Ytplabnjdhkmmkaa
end
section
set_option linter.unusedSimpArgs false
set_option linter.unusedVariables false
namespace Go.Proofs.Ytplabnjdhkmmkaa
open Go.ChangeShapes Go.WideShapes Go.ChangeAt Go.RowKit
attribute [local go_sem ↓] Go.wp_at_zero Go.wp_at_succ
theorem OwnI.lowerM {w : World} {b1 b2 : Nat} {v : Value} {xs : List Int} (h : OwnI w b1 v xs) (hb : b2 ≤ b1) : OwnI w b2 v xs := by
  obtain ⟨⟨hl, hr⟩, h2⟩ := h
  refine ⟨⟨hl, ?_⟩, h2⟩
  rcases hr with hr | ⟨g, cap, cur, e, hg, r⟩
  · exact .inl hr
  · exact .inr ⟨g, cap, cur, e, Nat.le_trans hb hg, r⟩
end Go.Proofs.Ytplabnjdhkmmkaa
end
section
set_option linter.unusedSimpArgs false
set_option linter.unusedVariables false
namespace Go.Proofs.Ytplabnjdhkmmkaa
open Go.ChangeShapes Go.WideShapes Go.ChangeAt Go.RowKit
section
variable {w : World} {S : Nat → Prop} {K p g j c : Nat} {m : MachM} {F B C L D : Value} {fs bs : List Value} {car : Int}
theorem setCar_nat (m : MachM) (j : Nat) (x : Bool × Int) : setCar m ((j : Int) + 1) x = { m with cs := m.cs.set j x } := by
  unfold setCar
  rw [show ((j : Int) + 1 - 1).toNat = j by omega]
theorem carAt_nat (m : MachM) (j : Nat) : carAt m ((j : Int) + 1) = m.cs.getD j (false, 0) := by
  unfold carAt
  rw [show ((j : Int) + 1 - 1).toNat = j by omega]
theorem MachX.ride (h : MachX w S K p m F B C L D fs bs) (hi : MInv m) (hj : car = j + 1) (hl : j < 4) (hC : C = .slice (some ⟨g, 0, none⟩) 4 c) (x : Int) :
    MachX (w.setCell ⟨g, j * 2 + 1, none⟩ (.int .i64 x)) S K p (setCar m car ((carAt m car).1, x)) F B C L D fs bs := by
  subst hj
  rw [setCar_nat, carAt_nat]
  exact h.set_car (by rw [hi.cl]; exact hC) _ (carCells_at m.cs j x (by rw [hi.cl]; exact hl)) (by simp)
theorem MachX.seat (h : MachX w S K p m F B C L D fs bs) (hi : MInv m) (hj : car = j + 1) (hl : j < 4) (hC : C = .slice (some ⟨g, 0, none⟩) 4 c) (b : Bool) (x : Int) :
    MachX ((w.setCell ⟨g, j * 2, none⟩ (.bool b)).setCell ⟨g, j * 2 + 1, none⟩ (.int .i64 x)) S K p (setCar m car (b, x)) F B C L D fs bs := by
  subst hj
  rw [setCar_nat]
  have h1 := h.set_car (by rw [hi.cl]; exact hC) _ (carCells_in m.cs j b (by rw [hi.cl]; exact hl)) (by simp)
  have h2 := h1.set_car (by simp only [List.length_set]; rw [hi.cl]; exact hC) _ (carCells_at _ j x (by simp only [List.length_set]; rw [hi.cl]; exact hl)) (by simp)
  have he : (m.cs.set j (b, (m.cs.getD j (false, 0)).2)).set j (((m.cs.set j (b, (m.cs.getD j (false, 0)).2)).getD j (false, 0)).1, x) = m.cs.set j (b, x) := by
    have : j < m.cs.length := by rw [hi.cl]; exact hl
    simp [this]
  simp only [he] at h2
  exact h2
theorem MachX.ride_chg (h : MachX w S K p m F B C L D fs bs) (hC : C = .slice (some ⟨g, 0, none⟩) 4 c) (i : Nat) (u : Value) : Chg S w (w.setCell ⟨g, i, none⟩ u) :=
  Chg.setCell (Chg.refl _ _) (.inl (h.own C (by simp) g (by rw [hC]; rfl))) u
end
theorem x_ixa {ρ : Operand → Value} {o : Oper} {w : World} {u1 u2 v : Value} (t : TypeId) (x y : Operand) (ho : o.op = .indexAddr t x y) (hx : ρ x = u1) (hy : ρ y = u2) (h : (Instr.indexAt t u1 u2).run Try.prog w = .ok v w) : (execOp ρ o).run Try.prog w = .ok (.value v) w := by
  unfold execOp; rw [ho]; simp [hx, hy, h, Result.andThen]
end Go.Proofs.Ytplabnjdhkmmkaa
end
section
set_option linter.unusedSimpArgs false
set_option linter.unusedVariables false
namespace Go.Proofs.Ytplabnjdhkmmkaa
open Go.ChangeShapes Go.WideShapes Go.ChangeAt Go.RowKit
attribute [local go_sem ↓] Go.wp_at_zero Go.wp_at_succ
end Go.Proofs.Ytplabnjdhkmmkaa
end
section
set_option linter.unusedSimpArgs false
set_option linter.unusedVariables false
namespace Go.Proofs.Ytplabnjdhkmmkaa
open Go.ChangeShapes Go.WideShapes Go.ChangeAt Go.RowKit
attribute [local go_sem ↓] Go.wp_at_zero Go.wp_at_succ
theorem setCar_twice (m : MachM) (hi : MInv m) (j : Nat) (hj : j < 4) (b : Bool) (x y : Int) : setCar (setCar m ((j : Int) + 1) (b, x)) ((j : Int) + 1) ((carAt (setCar m ((j : Int) + 1) (b, x)) ((j : Int) + 1)).1, y) = setCar m ((j : Int) + 1) (b, y) := by
  have : j < m.cs.length := by rw [hi.cl]; exact hj
  simp only [setCar_nat, carAt_nat]
  simp [this]
theorem keepO {w : World} {b i j : Nat} {u v : Value} (h : w.cell? ⟨b, j, none⟩ = some u) (hn : i ≠ j) : (w.setCell ⟨b, i, none⟩ v).cell? ⟨b, j, none⟩ = some u := by
  rw [World.cell?_setCell_other _ _ _ _ (fun e => hn (by injection e))]
  exact h
theorem AtN.same {F B : Value} {fs bs : List Value} {b a : Int} {g g' : Nat} {v v' : Value} (h : AtN F B fs bs b a g v) (h' : AtN F B fs bs b a g' v') : g = g' ∧ v = v' := by
  rcases h with ⟨e, c, h1, h2, _⟩ | ⟨e, c, h1, h2, _⟩ <;> rcases h' with ⟨e', c', h1', h2', _⟩ | ⟨e', c', h1', h2', _⟩
  · rw [h1] at h1'; simp at h1'; exact ⟨h1'.1, h2.symm.trans h2'⟩
  · omega
  · omega
  · rw [h1] at h1'; simp at h1'; exact ⟨h1'.1, h2.symm.trans h2'⟩
end Go.Proofs.Ytplabnjdhkmmkaa
end
section
set_option linter.unusedSimpArgs false
set_option linter.unusedVariables false
namespace Go.Proofs.Ytplabnjdhkmmkaa
open Go.ChangeShapes Go.WideShapes Go.ChangeAt Go.RowKit
attribute [local go_sem ↓] Go.wp_at_zero Go.wp_at_succ
/-- an operation is carried out, or its code tells why not -/
def nextM (m : MachM) (x : OpM) : MachM := if codeM m x = 0 then execM m x else m
theorem Mach.more {w : World} {S : Nat → Prop} {K K' p : Nat} {m : MachM} (h : Mach w S K p m) (hk : K ≤ K') : Mach w S K' p m := by
  obtain ⟨F, B, C, L, D, fs, bs, h⟩ := h
  exact (h.more hk).mach
theorem MInv.next {m : MachM} (h : MInv m) {x : OpM} (hx : okOp m.wd x) : MInv (nextM m x) := by
  unfold nextM
  split
  · rename_i h0; exact h.exec hx h0
  · exact h
end Go.Proofs.Ytplabnjdhkmmkaa
end
section
set_option linter.unusedSimpArgs false
set_option linter.unusedVariables false
set_option maxRecDepth 100000
set_option maxHeartbeats 8000000
namespace Go.Proofs.Ytplabnjdhkmmkaa
open Go.ChangeShapes Go.WideShapes Go.ChangeAt Go.RowKit
attribute [local go_sem ↓] Go.wp_at_zero Go.wp_at_succ
/-- an operation that lies in memory -/
structure OpC (w : World) (b i : Nat) (x : OpM) : Prop where
  c0 : w.cell? ⟨b, i, none⟩ = some (.int .i64 x.kind)
  c1 : w.cell? ⟨b, i + 1, none⟩ = some (.int .i64 x.dir)
  c2 : w.cell? ⟨b, i + 2, none⟩ = some (.int .i64 x.fb)
  c3 : w.cell? ⟨b, i + 3, none⟩ = some (.int .i64 x.fa)
  c4 : w.cell? ⟨b, i + 4, none⟩ = some (.int .i64 x.tb)
  c5 : w.cell? ⟨b, i + 5, none⟩ = some (.int .i64 x.ta)
  c6 : w.cell? ⟨b, i + 6, none⟩ = some (.int .i64 x.car)
  c7 : w.cell? ⟨b, i + 7, none⟩ = some (.int .i64 x.rack)
theorem OpC.keep {w w' : World} {b i : Nat} {x : OpM} {T : Nat → Prop} (h : OpC w b i x) (k : Chg T w w') (hb : ¬ T b) : OpC w' b i x :=
  ⟨k.cell h.c0 hb, k.cell h.c1 hb, k.cell h.c2 hb, k.cell h.c3 hb, k.cell h.c4 hb, k.cell h.c5 hb, k.cell h.c6 hb, k.cell h.c7 hb⟩
theorem OpC.up {w w' : World} {b i : Nat} {x : OpM} (h : OpC w b i x) (k : Up w w') : OpC w' b i x := h.keep k id
theorem l07Place_any (w : World) (b a r : Int) (ha : -1000 ≤ a ∧ a ≤ 1000) (hr : -1000 ≤ r ∧ r ≤ 1000) :
    Calls Try.prog 93 #[.agg #[.int .i64 b, .int .i64 a], .int .i64 r] w fun e w' => e = .returned (.int .i64 (placeM b a r)) ∧ Up w w' := by
  by_cases hb : b = 2
  · rw [show placeM b a r = a + r from if_pos hb]
    subst hb
    go_enter Try.func93, Try.ntmps93
    go_wp2
    go_ret
    exact ⟨rfl, (Chg.refl _ _).alloc _⟩
  · rw [show placeM b a r = a from if_neg hb]
    have h2 : (b == 2) = false := by simpa using hb
    go_enter Try.func93, Try.ntmps93
    go_wp2
    go_ret
    exact ⟨rfl, (Chg.refl _ _).alloc _⟩
theorem l07Bed_1 (w : World) (p : Nat) (A : Option Addr) (n c : Nat) (h : w.cell? ⟨p, 2, none⟩ = some (.slice A n c)) :
    Calls Try.prog 94 #[.pointer (some ⟨p, 0, none⟩), .int .i64 1] w fun e w' => e = .returned (.slice A n c) ∧ w = w' := by
  go_enter Try.func94, Try.ntmps94
  go_wp2
  go_ret
  exact ⟨rfl, rfl⟩
theorem l07Bed_2 (w : World) (p : Nat) (A : Option Addr) (n c : Nat) (h : w.cell? ⟨p, 3, none⟩ = some (.slice A n c)) :
    Calls Try.prog 94 #[.pointer (some ⟨p, 0, none⟩), .int .i64 2] w fun e w' => e = .returned (.slice A n c) ∧ w = w' := by
  go_enter Try.func94, Try.ntmps94
  go_wp2
  go_ret
  exact ⟨rfl, rfl⟩
theorem l07On_any (w : World) (p : Nat) (b a : Int) (g : Nat) (A : Option Addr) (c : Nat) (l : List Int) (h : Hold w p b a g (.slice A l.length c) l) :
    Calls Try.prog 68 #[.pointer (some ⟨p, 0, none⟩), .agg #[.int .i64 b, .int .i64 a]] w fun e w' => e = .returned (.slice A l.length c) ∧ Up w w' := by
  obtain ⟨h0, hdr, ⟨hcell, -⟩, -⟩ := h
  obtain ⟨i, rfl⟩ : ∃ i : Nat, a = i := ⟨a.toNat, by omega⟩
  have hG := Lib.hid ((Chg.refl Nowhere w).alloc (.cells #[.int .i64 b, .int .i64 i] 74))
  have e2 : (w.alloc (.cells #[.int .i64 b, .int .i64 i] 74)).cell? ⟨w.heap.size, 1, none⟩ = some (.int .i64 i) := cell_new _ _ _ _
  have e3 := Chg.cell hG.out hcell id
  rw [show ((i : Int)).toNat = i by omega] at e3
  clear hcell
  rcases hdr with ⟨rfl, n, c2, h1, h2, h3, ⟨h4, -⟩⟩ | ⟨rfl, n, c2, h1, h2, h3, ⟨h4, -⟩⟩
  all_goals
    have hpl := World.block_lt_of_cell? _ _ h4
    have e1 := Chg.cell hG.out h4 id
    have b0 : (0 : Int) ≤ (i : Int) := by omega
    have b1 : i < n := by omega
    have q1 := up_cell e1
    have q2 := up_cell e2
    have q3 := up_cell e3
    clear h4 h0
  · have e0 : (w.alloc (.cells #[.int .i64 2, .int .i64 i] 74)).cell? ⟨w.heap.size, 0, none⟩ = some (.int .i64 2) := cell_new _ _ _ _
    have q0 := up_cell e0
    go_enter Try.func68, Try.ntmps68
    go_wp2
    clear e0 e1 e2 e3
    refine wp_region_up (by kernel_rfl) (by kernel_rfl) ?_
    repeat (go_big_quiet_step (exact calls_up_same (l07Bed_2 _ _ _ _ _ (q1 _))))
    refine wpQuiet_nil ?_
    rintro _ ⟨u, rfl⟩
    go_wp2
    go_ret
    exact ⟨by simp, Chg.trans hG.out u.up⟩
  · have e0 : (w.alloc (.cells #[.int .i64 1, .int .i64 i] 74)).cell? ⟨w.heap.size, 0, none⟩ = some (.int .i64 1) := cell_new _ _ _ _
    have q0 := up_cell e0
    go_enter Try.func68, Try.ntmps68
    go_wp2
    clear e0 e1 e2 e3
    refine wp_region_up (by kernel_rfl) (by kernel_rfl) ?_
    repeat (go_big_quiet_step (exact calls_up_same (l07Bed_1 _ _ _ _ _ (q1 _))))
    refine wpQuiet_nil ?_
    rintro _ ⟨u, rfl⟩
    go_wp2
    go_ret
    exact ⟨by simp, Chg.trans hG.out u.up⟩
theorem l07Set_1 (w0 w : World) (k0 : Up w0 w) {S : Nat → Prop} {K p : Nat} {m : MachM} {F B C L D : Value} {fs bs : List Value} (h : MachX w0 S K p m F B C L D fs bs) (hS : NewIn S w0) {a : Int} {g : Nat} {v : Value} {l0 : List Int} (hv : AtN F B fs bs 1 a g v) (hH : Hold w0 p 1 a g v l0) {A' : Option Addr} {c' : Nat} {l' : List Int} (ho : OwnI w 0 (.slice A' l'.length c') l') (hb : ∀ x, (Value.slice A' l'.length c').ownBlock = some x → v.ownBlock = some x ∨ w0.heap.size ≤ x) :
    Calls Try.prog 69 #[.pointer (some ⟨p, 0, none⟩), .agg #[.int .i64 1, .int .i64 a], .slice A' l'.length c'] w fun e w' => e = .returned (.tuple #[]) ∧ MachX w' S K p (setM m 1 a l') F B C L D (setF fs 1 a (.slice A' l'.length c')) (setB bs 1 a (.slice A' l'.length c')) ∧ Chg S w0 w' := by
  obtain ⟨i, rfl⟩ : ∃ i : Nat, a = i := ⟨a.toNat, by have := hH.a0; omega⟩
  have hc := (hH.up k0).cell
  have hh := (hH.up k0).hdr
  have hto : ((i : Int)).toNat = i := by omega
  rw [hto] at hc
  have b0 : (0 : Int) ≤ (i : Int) := by omega
  obtain ⟨n, c, h1, h2, h3, h4⟩ : ∃ n c : Nat, (i : Int) < (n : Int) ∧ n ≤ c ∧ c ≤ 9223372036854775807 ∧ CellU w ⟨p, 2, none⟩ (.slice (some ⟨g, 0, none⟩) n c) := by
    rcases hh with ⟨e, n, c, r⟩ | ⟨e, n, c, r⟩
    · cases e
    · exact ⟨n, c, r⟩
  have b1 : i < n := by omega
  have k1 := Lib.hid (Chg.trans k0 ((Chg.refl Nowhere w).alloc (.cells #[.int .i64 1, .int .i64 i] 74)))
  have HX := Lib.hid (h.slotX hS hv (Chg.of_up k1.out) (ho.up ((Chg.refl Nowhere w).alloc (.cells #[.int .i64 1, .int .i64 i] 74))) hb)
  have HG := Lib.hid (h.slotG (v' := .slice A' l'.length c') hv (Chg.of_up k1.out))
  rw [hto] at HX HG
  have e1 := Chg.cell ((Chg.refl Nowhere w).alloc (.cells #[.int .i64 1, .int .i64 i] 74)) h4.1 id
  have e2 := Chg.cell ((Chg.refl Nowhere w).alloc (.cells #[.int .i64 1, .int .i64 i] 74)) hc.1 id
  have f2 := (hc.up ((Chg.refl Nowhere w).alloc (.cells #[.int .i64 1, .int .i64 i] 74))).2
  clear h hS hv hH k0 hb hh hc h4 ho
  go_enter Try.func69, Try.ntmps69
  go_wp2_with fail
  refine (l07Bed_1 _ _ _ _ _ e1).mono ?_
  rintro e w' ⟨rfl, rfl⟩
  go_wp2
  go_end0
  exact ⟨rfl, by simpa using HX.out, by simpa using HG.out⟩
theorem l07Set_2 (w0 w : World) (k0 : Up w0 w) {S : Nat → Prop} {K p : Nat} {m : MachM} {F B C L D : Value} {fs bs : List Value} (h : MachX w0 S K p m F B C L D fs bs) (hS : NewIn S w0) {a : Int} {g : Nat} {v : Value} {l0 : List Int} (hv : AtN F B fs bs 2 a g v) (hH : Hold w0 p 2 a g v l0) {A' : Option Addr} {c' : Nat} {l' : List Int} (ho : OwnI w 0 (.slice A' l'.length c') l') (hb : ∀ x, (Value.slice A' l'.length c').ownBlock = some x → v.ownBlock = some x ∨ w0.heap.size ≤ x) :
    Calls Try.prog 69 #[.pointer (some ⟨p, 0, none⟩), .agg #[.int .i64 2, .int .i64 a], .slice A' l'.length c'] w fun e w' => e = .returned (.tuple #[]) ∧ MachX w' S K p (setM m 2 a l') F B C L D (setF fs 2 a (.slice A' l'.length c')) (setB bs 2 a (.slice A' l'.length c')) ∧ Chg S w0 w' := by
  obtain ⟨i, rfl⟩ : ∃ i : Nat, a = i := ⟨a.toNat, by have := hH.a0; omega⟩
  have hc := (hH.up k0).cell
  have hh := (hH.up k0).hdr
  have hto : ((i : Int)).toNat = i := by omega
  rw [hto] at hc
  have b0 : (0 : Int) ≤ (i : Int) := by omega
  obtain ⟨n, c, h1, h2, h3, h4⟩ : ∃ n c : Nat, (i : Int) < (n : Int) ∧ n ≤ c ∧ c ≤ 9223372036854775807 ∧ CellU w ⟨p, 3, none⟩ (.slice (some ⟨g, 0, none⟩) n c) := by
    rcases hh with ⟨e, n, c, r⟩ | ⟨e, n, c, r⟩
    · exact ⟨n, c, r⟩
    · cases e
  have b1 : i < n := by omega
  have k1 := Lib.hid (Chg.trans k0 ((Chg.refl Nowhere w).alloc (.cells #[.int .i64 2, .int .i64 i] 74)))
  have HX := Lib.hid (h.slotX hS hv (Chg.of_up k1.out) (ho.up ((Chg.refl Nowhere w).alloc (.cells #[.int .i64 2, .int .i64 i] 74))) hb)
  have HG := Lib.hid (h.slotG (v' := .slice A' l'.length c') hv (Chg.of_up k1.out))
  rw [hto] at HX HG
  have e1 := Chg.cell ((Chg.refl Nowhere w).alloc (.cells #[.int .i64 2, .int .i64 i] 74)) h4.1 id
  have e2 := Chg.cell ((Chg.refl Nowhere w).alloc (.cells #[.int .i64 2, .int .i64 i] 74)) hc.1 id
  have f2 := (hc.up ((Chg.refl Nowhere w).alloc (.cells #[.int .i64 2, .int .i64 i] 74))).2
  clear h hS hv hH k0 hb hh hc h4 ho
  go_enter Try.func69, Try.ntmps69
  go_wp2_with fail
  refine (l07Bed_2 _ _ _ _ _ e1).mono ?_
  rintro e w' ⟨rfl, rfl⟩
  go_wp2
  go_end0
  exact ⟨rfl, by simpa using HX.out, by simpa using HG.out⟩
end Go.Proofs.Ytplabnjdhkmmkaa
end
section
set_option linter.unusedSimpArgs false
set_option linter.unusedVariables false
set_option maxRecDepth 100000
set_option maxHeartbeats 8000000
namespace Go.Proofs.Ytplabnjdhkmmkaa
open Go.ChangeShapes Go.WideShapes Go.ChangeAt Go.RowKit
attribute [local go_sem ↓] Go.wp_at_zero Go.wp_at_succ
theorem setCar_pair (m : MachM) (hi : MInv m) (j : Nat) (hj : j < 4) (z : Bool × Int) (y : Int) : setCar (setCar m ((j : Int) + 1) z) ((j : Int) + 1) ((carAt (setCar m ((j : Int) + 1) z) ((j : Int) + 1)).1, y) = setCar m ((j : Int) + 1) (z.1, y) := by
  obtain ⟨b, x⟩ := z
  exact setCar_twice m hi j hj b x y
theorem l07Place_x (w : World) (b a r x : Int) (ha : -1000 ≤ a ∧ a ≤ 1000) (hr : -1000 ≤ r ∧ r ≤ 1000) (hx : placeM b a r = x) :
    Calls Try.prog 93 #[.agg #[.int .i64 b, .int .i64 a], .int .i64 r] w fun e w' => e = .returned (.int .i64 x) ∧ Up w w' := hx ▸ l07Place_any w b a r ha hr
theorem carry_yesR (w : World) {S : Nat → Prop} {K p : Nat} {m : MachM} {F B C L D : Value} {fs bs : List Value} (h : MachX w S K p m F B C L D fs bs) (hi : MInv m) (bo oi : Nat) (k fb fa tb ta rk : Int) (j : Nat) (hj : j < 4) (hO : OpC w bo oi ⟨k, 1, fb, fa, tb, ta, ((j : Int) + 1), rk⟩) (hb : ¬ S bo) (hfa : 0 ≤ fa ∧ fa ≤ 23) (hin : (carAt m ((j : Int) + 1)).1 = true) (hle : (carAt m ((j : Int) + 1)).2 ≤ placeM fb fa m.rack) :
    Calls Try.prog 66 #[.pointer (some ⟨p, 0, none⟩), .pointer (some ⟨bo, oi, none⟩)] w fun e w' => e = .returned (.bool true) ∧ MachX w' S K p (setCar m ((j : Int) + 1) ((carAt m ((j : Int) + 1)).1, behindM m ⟨k, 1, fb, fa, tb, ta, ((j : Int) + 1), rk⟩)) F B C L D fs bs ∧ Chg S w w' := by
  obtain ⟨gC, jc, cC, hK, hCe⟩ := h.car hi (car := ((j : Int) + 1)) (by omega)
  obtain rfl : j = jc := by have := hK.ec; omega
  clear hj
  have hKj := hK.jl
  have hKc := hK.cc
  have hk4 := hK.hdr.1
  have hka := hK.a.1
  have hkb := hK.b
  have hp1 := h.c1.1
  have hrk := hi.rack
  have hcb := carAt_fits hi (c := ((j : Int) + 1)) (by omega)
  obtain ⟨x, Hx⟩ : ∃ x, Hid (placeM fb fa m.rack = x) := ⟨_, rfl⟩
  obtain ⟨pl, Hpl⟩ : ∃ pl, Hid ((carAt m ((j : Int) + 1)).2 = pl) := ⟨_, rfl⟩
  rw [Hpl.out] at hkb hcb
  rw [hin] at hka
  have hxb := placeM_bd (b := fb) (a := fa) (r := m.rack) hfa hrk
  rw [Hx.out] at hxb
  rw [Hx.out, Hpl.out] at hle
  have hoc0 := hO.c1
  have hoc2 := hO.c2
  have hoc3 := hO.c3
  have hoc6 := hO.c6
  have hoc3' : w.cell? ⟨bo, oi + 2 + 1, none⟩ = _ := hO.c3
  dsimp only at hoc0 hoc2 hoc3 hoc6 hoc3'
  have y1 : IntKind.i64.wrap ((j : Int) + 1 - 1) = j := (IntWalk.i64_in ((j : Int) + 1 - 1) (by omega)).trans (by omega)
  have y2 : IntKind.i64.wrap (j : Int) = j := IntWalk.i64_in _ (by omega)
  have b0 : (0 : Int) ≤ (j : Int) := by omega
  have b1 : (j : Int) < 4 := by omega
  have q0 := up_cell hk4
  have q1 := up_cell hoc6
  have Hi := Lib.hid hi
  have HX := Lib.hid h
  have HO := Lib.hid hO
  clear hi h hO hK
  go_enter Try.func66, Try.ntmps66
  go_wp2
  refine wp_region_up (by kernel_rfl) (by kernel_rfl) ?_
  repeat (go_big_quiet_step (fail))
  refine wpQuiet_nil ?_
  rintro w1 ⟨u, hu⟩
  have g1 := Lib.hid (hu ▸ u.up : Up w w1)
  clear hu u q0 q1
  have hoc2 := Chg.cell g1.out hoc2 id
  have hoc3 := Chg.cell g1.out hoc3 id
  have hoc3' := Chg.cell g1.out hoc3' id
  have hh := cc3 g1.out hp1 hka hoc0
  obtain ⟨hp1, hka, hoc0⟩ := hh
  have q2 := up_cell hoc2
  have q3 := up_cell hoc3
  have q3' := up_cell hoc3'
  have q4 := up_cell hp1
  go_wp2
  refine wp_region_up (by kernel_rfl) (by kernel_rfl) ?_
  repeat (go_big_quiet_step (exact calls_up (l07Place_x _ _ _ _ _ (by omega) (by omega) Hx.out)))
  refine wpQuiet_nil ?_
  rintro w2 ⟨u, hu⟩
  have g2 := Lib.hid (Chg.trans g1.out (hu ▸ u.up) : Up w w2)
  have g3 := Lib.hid (hu ▸ u.up : Up w1 w2)
  clear hu u q2 q3 q3' q4
  have hka := Chg.cell g3.out hka id
  have hod := Chg.cell g3.out hoc0 id
  have hkb := hkb.up g2.out
  have hk1 := hkb.1
  have hk2 := hkb.2
  have X1 := Lib.hid ((HX.out.up g2.out).ride Hi.out (car := ((j : Int) + 1)) rfl hKj hCe x)
  have G1 := Lib.hid ((HX.out.up g2.out).ride_chg hCe (j * 2 + 1) (.int .i64 x))
  have hi1 := Hi.out.setCar_ ((j : Int) + 1) (x := ((carAt m ((j : Int) + 1)).1, x)) ⟨by omega, by omega, fun hh => by rw [hin] at hh; cases hh⟩
  have X2 := Lib.hid (X1.out.ride hi1 (car := ((j : Int) + 1)) rfl hKj hCe (x + 1))
  have G2 := Lib.hid (X1.out.ride_chg hCe (j * 2 + 1) (.int .i64 (x + 1)))
  clear hi1
  have hgb : gC ≠ bo := fun e => hb (e ▸ HX.out.own C (by simp) gC (by rw [hCe]; rfl))
  have hod2 : (w2.setCell ⟨gC, j * 2 + 1, none⟩ (.int .i64 x)).cell? ⟨bo, oi + 1, none⟩ = _ := keepS hod hgb
  have hk3 : (w2.setCell ⟨gC, j * 2 + 1, none⟩ (.int .i64 x)).cell? ⟨gC, j * 2 + 1, none⟩ = some (.int .i64 x) := World.cell?_setCell_same _ _ _ hk1
  have hk5 : (w2.setCell ⟨gC, j * 2 + 1, none⟩ (.int .i64 x)).frozen? ⟨gC, j * 2 + 1, none⟩ = false := by simpa using hk2
  go_wp2
  go_ret
  have hbe : behindM m ⟨k, 1, fb, fa, tb, ta, ((j : Int) + 1), rk⟩ = x + 1 := by show placeM fb fa m.rack + 1 = _; rw [Hx.out]
  rw [hbe]
  have := X2.out
  rw [setCar_pair m Hi.out j hKj] at this
  exact ⟨rfl, this, Chg.trans (Chg.of_up g2.out) (Chg.trans G1.out G2.out)⟩
theorem carry_outR (w : World) {S : Nat → Prop} {K p : Nat} {m : MachM} {F B C L D : Value} {fs bs : List Value} (h : MachX w S K p m F B C L D fs bs) (hi : MInv m) (bo oi : Nat) (k fb fa tb ta rk : Int) (j : Nat) (hj : j < 4) (hO : OpC w bo oi ⟨k, 1, fb, fa, tb, ta, ((j : Int) + 1), rk⟩) (hb : ¬ S bo) (hfa : 0 ≤ fa ∧ fa ≤ 23) (hin : (carAt m ((j : Int) + 1)).1 = false) :
    Calls Try.prog 66 #[.pointer (some ⟨p, 0, none⟩), .pointer (some ⟨bo, oi, none⟩)] w fun e w' => e = .returned (.bool false) ∧ Up w w' := by
  obtain ⟨gC, jc, cC, hK, hCe⟩ := h.car hi (car := ((j : Int) + 1)) (by omega)
  obtain rfl : j = jc := by have := hK.ec; omega
  clear hj
  have hKj := hK.jl
  have hKc := hK.cc
  have hk4 := hK.hdr.1
  have hka := hK.a.1
  have hkb := hK.b
  have hp1 := h.c1.1
  have hrk := hi.rack
  have hcb := carAt_fits hi (c := ((j : Int) + 1)) (by omega)
  obtain ⟨x, Hx⟩ : ∃ x, Hid (placeM fb fa m.rack = x) := ⟨_, rfl⟩
  obtain ⟨pl, Hpl⟩ : ∃ pl, Hid ((carAt m ((j : Int) + 1)).2 = pl) := ⟨_, rfl⟩
  rw [Hpl.out] at hkb hcb
  rw [hin] at hka
  have hxb := placeM_bd (b := fb) (a := fa) (r := m.rack) hfa hrk
  rw [Hx.out] at hxb
  have hoc0 := hO.c1
  have hoc2 := hO.c2
  have hoc3 := hO.c3
  have hoc6 := hO.c6
  have hoc3' : w.cell? ⟨bo, oi + 2 + 1, none⟩ = _ := hO.c3
  dsimp only at hoc0 hoc2 hoc3 hoc6 hoc3'
  have y1 : IntKind.i64.wrap ((j : Int) + 1 - 1) = j := (IntWalk.i64_in ((j : Int) + 1 - 1) (by omega)).trans (by omega)
  have y2 : IntKind.i64.wrap (j : Int) = j := IntWalk.i64_in _ (by omega)
  have b0 : (0 : Int) ≤ (j : Int) := by omega
  have b1 : (j : Int) < 4 := by omega
  have q0 := up_cell hk4
  have q1 := up_cell hoc6
  have Hi := Lib.hid hi
  have HX := Lib.hid h
  have HO := Lib.hid hO
  clear hi h hO hK
  go_enter Try.func66, Try.ntmps66
  go_wp2
  refine wp_region_up (by kernel_rfl) (by kernel_rfl) ?_
  repeat (go_big_quiet_step (fail))
  refine wpQuiet_nil ?_
  rintro w1 ⟨u, hu⟩
  have g1 := Lib.hid (hu ▸ u.up : Up w w1)
  clear hu u q0 q1
  have hoc2 := Chg.cell g1.out hoc2 id
  have hoc3 := Chg.cell g1.out hoc3 id
  have hoc3' := Chg.cell g1.out hoc3' id
  have hh := cc3 g1.out hp1 hka hoc0
  obtain ⟨hp1, hka, hoc0⟩ := hh
  have q2 := up_cell hoc2
  have q3 := up_cell hoc3
  have q3' := up_cell hoc3'
  have q4 := up_cell hp1
  go_wp2
  refine wp_region_up (by kernel_rfl) (by kernel_rfl) ?_
  repeat (go_big_quiet_step (exact calls_up (l07Place_x _ _ _ _ _ (by omega) (by omega) Hx.out)))
  refine wpQuiet_nil ?_
  rintro w2 ⟨u, hu⟩
  have g2 := Lib.hid (Chg.trans g1.out (hu ▸ u.up) : Up w w2)
  have g3 := Lib.hid (hu ▸ u.up : Up w1 w2)
  clear hu u q2 q3 q3' q4
  have hka := Chg.cell g3.out hka id
  have hod := Chg.cell g3.out hoc0 id
  have hkb := hkb.up g2.out
  have hk1 := hkb.1
  have hk2 := hkb.2
  go_wp2
  go_ret
  exact ⟨rfl, g2.out⟩
theorem carry_farR (w : World) {S : Nat → Prop} {K p : Nat} {m : MachM} {F B C L D : Value} {fs bs : List Value} (h : MachX w S K p m F B C L D fs bs) (hi : MInv m) (bo oi : Nat) (k fb fa tb ta rk : Int) (j : Nat) (hj : j < 4) (hO : OpC w bo oi ⟨k, 1, fb, fa, tb, ta, ((j : Int) + 1), rk⟩) (hb : ¬ S bo) (hfa : 0 ≤ fa ∧ fa ≤ 23) (hin : (carAt m ((j : Int) + 1)).1 = true) (hle : placeM fb fa m.rack < (carAt m ((j : Int) + 1)).2) :
    Calls Try.prog 66 #[.pointer (some ⟨p, 0, none⟩), .pointer (some ⟨bo, oi, none⟩)] w fun e w' => e = .returned (.bool false) ∧ Up w w' := by
  obtain ⟨gC, jc, cC, hK, hCe⟩ := h.car hi (car := ((j : Int) + 1)) (by omega)
  obtain rfl : j = jc := by have := hK.ec; omega
  clear hj
  have hKj := hK.jl
  have hKc := hK.cc
  have hk4 := hK.hdr.1
  have hka := hK.a.1
  have hkb := hK.b
  have hp1 := h.c1.1
  have hrk := hi.rack
  have hcb := carAt_fits hi (c := ((j : Int) + 1)) (by omega)
  obtain ⟨x, Hx⟩ : ∃ x, Hid (placeM fb fa m.rack = x) := ⟨_, rfl⟩
  obtain ⟨pl, Hpl⟩ : ∃ pl, Hid ((carAt m ((j : Int) + 1)).2 = pl) := ⟨_, rfl⟩
  rw [Hpl.out] at hkb hcb
  rw [hin] at hka
  have hxb := placeM_bd (b := fb) (a := fa) (r := m.rack) hfa hrk
  rw [Hx.out] at hxb
  rw [Hx.out, Hpl.out] at hle
  have hoc0 := hO.c1
  have hoc2 := hO.c2
  have hoc3 := hO.c3
  have hoc6 := hO.c6
  have hoc3' : w.cell? ⟨bo, oi + 2 + 1, none⟩ = _ := hO.c3
  dsimp only at hoc0 hoc2 hoc3 hoc6 hoc3'
  have y1 : IntKind.i64.wrap ((j : Int) + 1 - 1) = j := (IntWalk.i64_in ((j : Int) + 1 - 1) (by omega)).trans (by omega)
  have y2 : IntKind.i64.wrap (j : Int) = j := IntWalk.i64_in _ (by omega)
  have b0 : (0 : Int) ≤ (j : Int) := by omega
  have b1 : (j : Int) < 4 := by omega
  have q0 := up_cell hk4
  have q1 := up_cell hoc6
  have Hi := Lib.hid hi
  have HX := Lib.hid h
  have HO := Lib.hid hO
  clear hi h hO hK
  go_enter Try.func66, Try.ntmps66
  go_wp2
  refine wp_region_up (by kernel_rfl) (by kernel_rfl) ?_
  repeat (go_big_quiet_step (fail))
  refine wpQuiet_nil ?_
  rintro w1 ⟨u, hu⟩
  have g1 := Lib.hid (hu ▸ u.up : Up w w1)
  clear hu u q0 q1
  have hoc2 := Chg.cell g1.out hoc2 id
  have hoc3 := Chg.cell g1.out hoc3 id
  have hoc3' := Chg.cell g1.out hoc3' id
  have hh := cc3 g1.out hp1 hka hoc0
  obtain ⟨hp1, hka, hoc0⟩ := hh
  have q2 := up_cell hoc2
  have q3 := up_cell hoc3
  have q3' := up_cell hoc3'
  have q4 := up_cell hp1
  go_wp2
  refine wp_region_up (by kernel_rfl) (by kernel_rfl) ?_
  repeat (go_big_quiet_step (exact calls_up (l07Place_x _ _ _ _ _ (by omega) (by omega) Hx.out)))
  refine wpQuiet_nil ?_
  rintro w2 ⟨u, hu⟩
  have g2 := Lib.hid (Chg.trans g1.out (hu ▸ u.up) : Up w w2)
  have g3 := Lib.hid (hu ▸ u.up : Up w1 w2)
  clear hu u q2 q3 q3' q4
  have hka := Chg.cell g3.out hka id
  have hod := Chg.cell g3.out hoc0 id
  have hkb := hkb.up g2.out
  have hk1 := hkb.1
  have hk2 := hkb.2
  go_wp2
  go_ret
  exact ⟨rfl, g2.out⟩
theorem carry_yesL (w : World) {S : Nat → Prop} {K p : Nat} {m : MachM} {F B C L D : Value} {fs bs : List Value} (h : MachX w S K p m F B C L D fs bs) (hi : MInv m) (bo oi : Nat) (k fb fa tb ta rk : Int) (j : Nat) (hj : j < 4) (hO : OpC w bo oi ⟨k, (-1), fb, fa, tb, ta, ((j : Int) + 1), rk⟩) (hb : ¬ S bo) (hfa : 0 ≤ fa ∧ fa ≤ 23) (hin : (carAt m ((j : Int) + 1)).1 = true) (hle : placeM fb fa m.rack + 1 ≤ (carAt m ((j : Int) + 1)).2) :
    Calls Try.prog 66 #[.pointer (some ⟨p, 0, none⟩), .pointer (some ⟨bo, oi, none⟩)] w fun e w' => e = .returned (.bool true) ∧ MachX w' S K p (setCar m ((j : Int) + 1) ((carAt m ((j : Int) + 1)).1, behindM m ⟨k, (-1), fb, fa, tb, ta, ((j : Int) + 1), rk⟩)) F B C L D fs bs ∧ Chg S w w' := by
  obtain ⟨gC, jc, cC, hK, hCe⟩ := h.car hi (car := ((j : Int) + 1)) (by omega)
  obtain rfl : j = jc := by have := hK.ec; omega
  clear hj
  have hKj := hK.jl
  have hKc := hK.cc
  have hk4 := hK.hdr.1
  have hka := hK.a.1
  have hkb := hK.b
  have hp1 := h.c1.1
  have hrk := hi.rack
  have hcb := carAt_fits hi (c := ((j : Int) + 1)) (by omega)
  obtain ⟨x, Hx⟩ : ∃ x, Hid (placeM fb fa m.rack = x) := ⟨_, rfl⟩
  obtain ⟨pl, Hpl⟩ : ∃ pl, Hid ((carAt m ((j : Int) + 1)).2 = pl) := ⟨_, rfl⟩
  rw [Hpl.out] at hkb hcb
  rw [hin] at hka
  have hxb := placeM_bd (b := fb) (a := fa) (r := m.rack) hfa hrk
  rw [Hx.out] at hxb
  rw [Hx.out, Hpl.out] at hle
  have hoc0 := hO.c1
  have hoc2 := hO.c2
  have hoc3 := hO.c3
  have hoc6 := hO.c6
  have hoc3' : w.cell? ⟨bo, oi + 2 + 1, none⟩ = _ := hO.c3
  dsimp only at hoc0 hoc2 hoc3 hoc6 hoc3'
  have y1 : IntKind.i64.wrap ((j : Int) + 1 - 1) = j := (IntWalk.i64_in ((j : Int) + 1 - 1) (by omega)).trans (by omega)
  have y2 : IntKind.i64.wrap (j : Int) = j := IntWalk.i64_in _ (by omega)
  have b0 : (0 : Int) ≤ (j : Int) := by omega
  have b1 : (j : Int) < 4 := by omega
  have q0 := up_cell hk4
  have q1 := up_cell hoc6
  have Hi := Lib.hid hi
  have HX := Lib.hid h
  have HO := Lib.hid hO
  clear hi h hO hK
  go_enter Try.func66, Try.ntmps66
  go_wp2
  refine wp_region_up (by kernel_rfl) (by kernel_rfl) ?_
  repeat (go_big_quiet_step (fail))
  refine wpQuiet_nil ?_
  rintro w1 ⟨u, hu⟩
  have g1 := Lib.hid (hu ▸ u.up : Up w w1)
  clear hu u q0 q1
  have hoc2 := Chg.cell g1.out hoc2 id
  have hoc3 := Chg.cell g1.out hoc3 id
  have hoc3' := Chg.cell g1.out hoc3' id
  have hh := cc3 g1.out hp1 hka hoc0
  obtain ⟨hp1, hka, hoc0⟩ := hh
  have q2 := up_cell hoc2
  have q3 := up_cell hoc3
  have q3' := up_cell hoc3'
  have q4 := up_cell hp1
  go_wp2
  refine wp_region_up (by kernel_rfl) (by kernel_rfl) ?_
  repeat (go_big_quiet_step (exact calls_up (l07Place_x _ _ _ _ _ (by omega) (by omega) Hx.out)))
  refine wpQuiet_nil ?_
  rintro w2 ⟨u, hu⟩
  have g2 := Lib.hid (Chg.trans g1.out (hu ▸ u.up) : Up w w2)
  have g3 := Lib.hid (hu ▸ u.up : Up w1 w2)
  clear hu u q2 q3 q3' q4
  have hka := Chg.cell g3.out hka id
  have hod := Chg.cell g3.out hoc0 id
  have hkb := hkb.up g2.out
  have hk1 := hkb.1
  have hk2 := hkb.2
  have X1 := Lib.hid ((HX.out.up g2.out).ride Hi.out (car := ((j : Int) + 1)) rfl hKj hCe x)
  have G1 := Lib.hid ((HX.out.up g2.out).ride_chg hCe (j * 2 + 1) (.int .i64 x))
  have hgb : gC ≠ bo := fun e => hb (e ▸ HX.out.own C (by simp) gC (by rw [hCe]; rfl))
  have hod2 : (w2.setCell ⟨gC, j * 2 + 1, none⟩ (.int .i64 x)).cell? ⟨bo, oi + 1, none⟩ = _ := keepS hod hgb
  go_wp2
  go_ret
  have hbe : behindM m ⟨k, (-1), fb, fa, tb, ta, ((j : Int) + 1), rk⟩ = x := by show placeM fb fa m.rack + 0 = _; rw [Hx.out]; exact Int.add_zero _
  rw [hbe]
  exact ⟨rfl, X1.out, Chg.trans (Chg.of_up g2.out) G1.out⟩
theorem carry_outL (w : World) {S : Nat → Prop} {K p : Nat} {m : MachM} {F B C L D : Value} {fs bs : List Value} (h : MachX w S K p m F B C L D fs bs) (hi : MInv m) (bo oi : Nat) (k fb fa tb ta rk : Int) (j : Nat) (hj : j < 4) (hO : OpC w bo oi ⟨k, (-1), fb, fa, tb, ta, ((j : Int) + 1), rk⟩) (hb : ¬ S bo) (hfa : 0 ≤ fa ∧ fa ≤ 23) (hin : (carAt m ((j : Int) + 1)).1 = false) :
    Calls Try.prog 66 #[.pointer (some ⟨p, 0, none⟩), .pointer (some ⟨bo, oi, none⟩)] w fun e w' => e = .returned (.bool false) ∧ Up w w' := by
  obtain ⟨gC, jc, cC, hK, hCe⟩ := h.car hi (car := ((j : Int) + 1)) (by omega)
  obtain rfl : j = jc := by have := hK.ec; omega
  clear hj
  have hKj := hK.jl
  have hKc := hK.cc
  have hk4 := hK.hdr.1
  have hka := hK.a.1
  have hkb := hK.b
  have hp1 := h.c1.1
  have hrk := hi.rack
  have hcb := carAt_fits hi (c := ((j : Int) + 1)) (by omega)
  obtain ⟨x, Hx⟩ : ∃ x, Hid (placeM fb fa m.rack = x) := ⟨_, rfl⟩
  obtain ⟨pl, Hpl⟩ : ∃ pl, Hid ((carAt m ((j : Int) + 1)).2 = pl) := ⟨_, rfl⟩
  rw [Hpl.out] at hkb hcb
  rw [hin] at hka
  have hxb := placeM_bd (b := fb) (a := fa) (r := m.rack) hfa hrk
  rw [Hx.out] at hxb
  have hoc0 := hO.c1
  have hoc2 := hO.c2
  have hoc3 := hO.c3
  have hoc6 := hO.c6
  have hoc3' : w.cell? ⟨bo, oi + 2 + 1, none⟩ = _ := hO.c3
  dsimp only at hoc0 hoc2 hoc3 hoc6 hoc3'
  have y1 : IntKind.i64.wrap ((j : Int) + 1 - 1) = j := (IntWalk.i64_in ((j : Int) + 1 - 1) (by omega)).trans (by omega)
  have y2 : IntKind.i64.wrap (j : Int) = j := IntWalk.i64_in _ (by omega)
  have b0 : (0 : Int) ≤ (j : Int) := by omega
  have b1 : (j : Int) < 4 := by omega
  have q0 := up_cell hk4
  have q1 := up_cell hoc6
  have Hi := Lib.hid hi
  have HX := Lib.hid h
  have HO := Lib.hid hO
  clear hi h hO hK
  go_enter Try.func66, Try.ntmps66
  go_wp2
  refine wp_region_up (by kernel_rfl) (by kernel_rfl) ?_
  repeat (go_big_quiet_step (fail))
  refine wpQuiet_nil ?_
  rintro w1 ⟨u, hu⟩
  have g1 := Lib.hid (hu ▸ u.up : Up w w1)
  clear hu u q0 q1
  have hoc2 := Chg.cell g1.out hoc2 id
  have hoc3 := Chg.cell g1.out hoc3 id
  have hoc3' := Chg.cell g1.out hoc3' id
  have hh := cc3 g1.out hp1 hka hoc0
  obtain ⟨hp1, hka, hoc0⟩ := hh
  have q2 := up_cell hoc2
  have q3 := up_cell hoc3
  have q3' := up_cell hoc3'
  have q4 := up_cell hp1
  go_wp2
  refine wp_region_up (by kernel_rfl) (by kernel_rfl) ?_
  repeat (go_big_quiet_step (exact calls_up (l07Place_x _ _ _ _ _ (by omega) (by omega) Hx.out)))
  refine wpQuiet_nil ?_
  rintro w2 ⟨u, hu⟩
  have g2 := Lib.hid (Chg.trans g1.out (hu ▸ u.up) : Up w w2)
  have g3 := Lib.hid (hu ▸ u.up : Up w1 w2)
  clear hu u q2 q3 q3' q4
  have hka := Chg.cell g3.out hka id
  have hod := Chg.cell g3.out hoc0 id
  have hkb := hkb.up g2.out
  have hk1 := hkb.1
  have hk2 := hkb.2
  go_wp2
  go_ret
  exact ⟨rfl, g2.out⟩
theorem carry_farL (w : World) {S : Nat → Prop} {K p : Nat} {m : MachM} {F B C L D : Value} {fs bs : List Value} (h : MachX w S K p m F B C L D fs bs) (hi : MInv m) (bo oi : Nat) (k fb fa tb ta rk : Int) (j : Nat) (hj : j < 4) (hO : OpC w bo oi ⟨k, (-1), fb, fa, tb, ta, ((j : Int) + 1), rk⟩) (hb : ¬ S bo) (hfa : 0 ≤ fa ∧ fa ≤ 23) (hin : (carAt m ((j : Int) + 1)).1 = true) (hle : (carAt m ((j : Int) + 1)).2 < placeM fb fa m.rack + 1) :
    Calls Try.prog 66 #[.pointer (some ⟨p, 0, none⟩), .pointer (some ⟨bo, oi, none⟩)] w fun e w' => e = .returned (.bool false) ∧ Up w w' := by
  obtain ⟨gC, jc, cC, hK, hCe⟩ := h.car hi (car := ((j : Int) + 1)) (by omega)
  obtain rfl : j = jc := by have := hK.ec; omega
  clear hj
  have hKj := hK.jl
  have hKc := hK.cc
  have hk4 := hK.hdr.1
  have hka := hK.a.1
  have hkb := hK.b
  have hp1 := h.c1.1
  have hrk := hi.rack
  have hcb := carAt_fits hi (c := ((j : Int) + 1)) (by omega)
  obtain ⟨x, Hx⟩ : ∃ x, Hid (placeM fb fa m.rack = x) := ⟨_, rfl⟩
  obtain ⟨pl, Hpl⟩ : ∃ pl, Hid ((carAt m ((j : Int) + 1)).2 = pl) := ⟨_, rfl⟩
  rw [Hpl.out] at hkb hcb
  rw [hin] at hka
  have hxb := placeM_bd (b := fb) (a := fa) (r := m.rack) hfa hrk
  rw [Hx.out] at hxb
  rw [Hx.out, Hpl.out] at hle
  have hoc0 := hO.c1
  have hoc2 := hO.c2
  have hoc3 := hO.c3
  have hoc6 := hO.c6
  have hoc3' : w.cell? ⟨bo, oi + 2 + 1, none⟩ = _ := hO.c3
  dsimp only at hoc0 hoc2 hoc3 hoc6 hoc3'
  have y1 : IntKind.i64.wrap ((j : Int) + 1 - 1) = j := (IntWalk.i64_in ((j : Int) + 1 - 1) (by omega)).trans (by omega)
  have y2 : IntKind.i64.wrap (j : Int) = j := IntWalk.i64_in _ (by omega)
  have b0 : (0 : Int) ≤ (j : Int) := by omega
  have b1 : (j : Int) < 4 := by omega
  have q0 := up_cell hk4
  have q1 := up_cell hoc6
  have Hi := Lib.hid hi
  have HX := Lib.hid h
  have HO := Lib.hid hO
  clear hi h hO hK
  go_enter Try.func66, Try.ntmps66
  go_wp2
  refine wp_region_up (by kernel_rfl) (by kernel_rfl) ?_
  repeat (go_big_quiet_step (fail))
  refine wpQuiet_nil ?_
  rintro w1 ⟨u, hu⟩
  have g1 := Lib.hid (hu ▸ u.up : Up w w1)
  clear hu u q0 q1
  have hoc2 := Chg.cell g1.out hoc2 id
  have hoc3 := Chg.cell g1.out hoc3 id
  have hoc3' := Chg.cell g1.out hoc3' id
  have hh := cc3 g1.out hp1 hka hoc0
  obtain ⟨hp1, hka, hoc0⟩ := hh
  have q2 := up_cell hoc2
  have q3 := up_cell hoc3
  have q3' := up_cell hoc3'
  have q4 := up_cell hp1
  go_wp2
  refine wp_region_up (by kernel_rfl) (by kernel_rfl) ?_
  repeat (go_big_quiet_step (exact calls_up (l07Place_x _ _ _ _ _ (by omega) (by omega) Hx.out)))
  refine wpQuiet_nil ?_
  rintro w2 ⟨u, hu⟩
  have g2 := Lib.hid (Chg.trans g1.out (hu ▸ u.up) : Up w w2)
  have g3 := Lib.hid (hu ▸ u.up : Up w1 w2)
  clear hu u q2 q3 q3' q4
  have hka := Chg.cell g3.out hka id
  have hod := Chg.cell g3.out hoc0 id
  have hkb := hkb.up g2.out
  have hk1 := hkb.1
  have hk2 := hkb.2
  go_wp2
  go_ret
  exact ⟨rfl, g2.out⟩
end Go.Proofs.Ytplabnjdhkmmkaa
end
