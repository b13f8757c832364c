/- Colour charts as plain data: floats, stitches, rows, the chart. No condition. Regions that draw their order, whose operations only read and whose callees at most make new memory: one walk serves every order. No condition. Slices whose elements take m cells each and bear a reading of their own: nested slices, slices of structs with slices. No condition. The laws' helpers on nested slices. No condition. The laws' helpers on nested slices. No condition. Events as data: slices of them; the laws' own helpers on them: equal, marked, held. No condition but room for the numbers. The laws' own copies of slices of events, and their sizes. No condition but room. -/
import Derived.Test.YtchfjglofmphfaaPD11
import Derived.Test.YtchfjglofmphfaaPD2
import Derived.Test.YtchfjglofmphfaaPD9
import Derived.Test.YtchfjglofmphfaaPD6
import Derived.StillTailTactics
import Derived.Laws.AppendOwnNone
section
set_option linter.unusedVariables false
namespace Go.Proofs.Ytchfjglofmphfaa
structure ColM where
  n : Int
  rs : List (List Int)
/-- one element more of a row is looked at -/
def floStep (num k : Int) (j : Nat) (x : Int) (s : List FloM × Int) : List FloM × Int :=
  if x = k then (if 0 ≤ s.2 ∧ s.2 + 1 < (j : Int) then s.1 ++ [⟨num, k, s.2, j⟩] else s.1, (j : Int)) else s
def floTo (row : List Int) (num k : Int) : Nat → List FloM × Int
  | 0 => ([], -1)
  | j + 1 => floStep num k j (row.getD j 0) (floTo row num k j)
def floL (row : List Int) (num k : Int) : List FloM := (floTo row num k row.length).1
def rowFl (row : List Int) (num : Int) : Nat → List FloM
  | 0 => []
  | k + 1 => rowFl row num k ++ floL row num ((k : Int) + 1)
def colAt (rows : List (List Int)) (i : Nat) : List Int := rows.getD i []
def allFl (rows : List (List Int)) : Nat → List FloM
  | 0 => []
  | i + 1 => allFl rows i ++ rowFl (colAt rows i) i 4
theorem colAt_eq {rows : List (List Int)} {i : Nat} (h : i < rows.length) : colAt rows i = rows[i] := by unfold colAt; simp [h]
/-- tucks at a, a + step .. below a place -/
def tuckW (out : List Int) (a step til : Int) : Nat → List Int
  | 0 => out
  | n + 1 => if a < til then tuckW (out.set a.toNat 6) (a + step) step til n else out
theorem tuckW_end (out : List Int) {a step til : Int} (h : ¬ a < til) : ∀ n, tuckW out a step til n = out
  | 0 => rfl
  | n + 1 => by unfold tuckW; rw [if_neg h]
theorem tuckW_step (out : List Int) {a step til : Int} (h : a < til) (n : Nat) : tuckW out a step til (n + 1) = tuckW (out.set a.toNat 6) (a + step) step til n := by
  rw [tuckW, if_pos h]
theorem tuckW_length (step til : Int) : ∀ (n : Nat) (out : List Int) (a : Int), (tuckW out a step til n).length = out.length
  | 0, _, _ => rfl
  | n + 1, out, a => by
    unfold tuckW
    split
    · rw [tuckW_length step til n, List.length_set]
    · rfl
def tuckF (most : Int) (out : List Int) (f : FloM) : List Int := tuckW out (f.fr + most + 1) (most + 1) f.til f.til.toNat
theorem tuckF_length (most : Int) (out : List Int) (f : FloM) : (tuckF most out f).length = out.length := tuckW_length _ _ _ _ _
theorem tuckFs_length (most : Int) : ∀ (fs : List FloM) (out : List Int), (fs.foldl (tuckF most) out).length = out.length
  | [], _ => rfl
  | f :: fs, out => by rw [List.foldl_cons, tuckFs_length most fs, tuckF_length]
def baseSt (row : List Int) (k : Int) : List Int := row.map fun x => if x = k then 1 else 7
def stitM (row : List Int) (k most : Int) : List Int := if 0 < most then (floL row 0 k).foldl (tuckF most) (baseSt row k) else baseSt row k
theorem stitM_length (row : List Int) (k most : Int) : (stitM row k most).length = row.length := by
  unfold stitM
  split
  · rw [tuckFs_length, baseSt, List.length_map]
  · rw [baseSt, List.length_map]
structure ColS where
  rs : List RowM
  ds : List Int
def dirOf (s : ColS) (k : Nat) : Int := if s.ds.getD k 0 ≠ 0 then -(s.ds.getD k 0) else if s.rs.length = 0 then -1 else 1
def colK (most : Int) (row : List Int) (s : ColS) (k : Nat) : ColS :=
  if ((k : Int) + 1) ∈ row then ⟨s.rs ++ [⟨dirOf s k, (k : Int) + 1, stitM row ((k : Int) + 1) most⟩], s.ds.set k (dirOf s k)⟩ else s
def colRow (most : Int) (row : List Int) (s : ColS) : Nat → ColS
  | 0 => s
  | k + 1 => colK most row (colRow most row s k) k
def colTo (most : Int) (rows : List (List Int)) : Nat → ColS
  | 0 => ⟨[], [0, 0, 0, 0]⟩
  | i + 1 => colRow most (colAt rows i) (colTo most rows i) 4
/-- the directions are those of four carriers, none, right or left -/
def DsOk (s : ColS) (m : Nat) : Prop := s.ds.length = 4 ∧ (∀ k, k < 4 → -1 ≤ s.ds.getD k 0 ∧ s.ds.getD k 0 ≤ 1) ∧ s.rs.length ≤ m
theorem dirOf_bd {s : ColS} {m : Nat} (h : DsOk s m) {k : Nat} (hk : k < 4) : dirOf s k = 1 ∨ dirOf s k = -1 := by
  have := h.2.1 k hk
  unfold dirOf
  split
  · omega
  · split <;> simp
theorem colK_ok {most : Int} {row : List Int} {s : ColS} {m k : Nat} (h : DsOk s m) (hk : k < 4) : DsOk (colK most row s k) (m + 1) := by
  unfold colK
  split
  · refine ⟨by rw [List.length_set]; exact h.1, fun i hi => ?_, by simp only [List.length_append, List.length_cons, List.length_nil]; have := h.2.2; omega⟩
    have h1 := dirOf_bd h hk
    have h2 := h.2.1 i hi
    by_cases he : k = i
    · subst he
      have : (s.ds.set k (dirOf s k)).getD k 0 = dirOf s k := by simp [List.getD_eq_getElem?_getD, h.1, hk]
      simp only []
      rw [this]
      omega
    · have : (s.ds.set k (dirOf s k)).getD i 0 = s.ds.getD i 0 := by simp [List.getD_eq_getElem?_getD, List.getElem?_set_ne he]
      simp only []
      rw [this]
      exact h2
  · exact ⟨h.1, h.2.1, Nat.le_succ_of_le h.2.2⟩
theorem colRow_ok {most : Int} {row : List Int} {s : ColS} {m : Nat} (h : DsOk s m) : ∀ k, k ≤ 4 → DsOk (colRow most row s k) (m + k)
  | 0, _ => h
  | k + 1, hk => colK_ok (colRow_ok h k (by omega)) (by omega)
theorem colTo_ok (most : Int) (rows : List (List Int)) : ∀ i, DsOk (colTo most rows i) (4 * i)
  | 0 => ⟨rfl, fun k hk => by
      match k, hk with
      | 0, _ => simp [colTo]
      | 1, _ => simp [colTo]
      | 2, _ => simp [colTo]
      | 3, _ => simp [colTo], Nat.zero_le _⟩
  | i + 1 => colRow_ok (colTo_ok most rows i) 4 (Nat.le_refl _)
theorem colRow_rs_len {most : Int} {row : List Int} {s : ColS} {L : Nat} (hl : row.length = L) (h : ∀ r ∈ s.rs, r.xs.length = L) : ∀ k, ∀ r ∈ (colRow most row s k).rs, r.xs.length = L
  | 0 => h
  | k + 1 => by
    intro r hr
    unfold colRow colK at hr
    split at hr
    · rcases List.mem_append.1 hr with hr | hr
      · exact colRow_rs_len hl h k r hr
      · obtain rfl : r = _ := by simpa using hr
        rw [stitM_length, hl]
    · exact colRow_rs_len hl h k r hr
/-- what floats are: their row and carrier, and where they lie -/
def FloOk (num k L : Int) (f : FloM) : Prop := f.row = num ∧ f.car = k ∧ 0 ≤ f.fr ∧ f.fr < f.til ∧ f.til < L
theorem floTo_ok (row : List Int) (num k : Int) : ∀ j, (∀ f ∈ (floTo row num k j).1, FloOk num k j f) ∧ -1 ≤ (floTo row num k j).2 ∧ (floTo row num k j).2 < j ∧ (floTo row num k j).1.length ≤ j
  | 0 => ⟨fun f hf => by simp [floTo] at hf, by simp [floTo], by simp [floTo], by simp [floTo]⟩
  | j + 1 => by
    obtain ⟨h1, h2, h3, h4⟩ := floTo_ok row num k j
    have up : ∀ f ∈ (floTo row num k j).1, FloOk num k ((j : Nat) + 1 : Nat) f := fun f hf => by
      obtain ⟨a, b, c, d, e⟩ := h1 f hf
      exact ⟨a, b, c, d, by omega⟩
    unfold floTo floStep
    split
    · split
      · rename_i hc
        refine ⟨fun f hf => ?_, by simp only []; omega, by simp only []; omega, by simp only [List.length_append, List.length_cons, List.length_nil]; omega⟩
        rcases List.mem_append.1 hf with hf | hf
        · exact up f hf
        · obtain rfl : f = _ := by simpa using hf
          exact ⟨rfl, rfl, hc.1, by simp only []; omega, by simp only []; omega⟩
      · exact ⟨up, by simp only []; omega, by simp only []; omega, by simp only []; omega⟩
    · exact ⟨up, h2, by omega, by omega⟩
theorem floL_ok (row : List Int) (num k : Int) : ∀ f ∈ floL row num k, FloOk num k row.length f := (floTo_ok row num k row.length).1
theorem floL_len (row : List Int) (num k : Int) : (floL row num k).length ≤ row.length := (floTo_ok row num k row.length).2.2.2
theorem rowFl_mem (row : List Int) (num : Int) : ∀ n, ∀ f ∈ rowFl row num n, FloOk num f.car row.length f ∧ 1 ≤ f.car ∧ f.car ≤ n
  | 0 => fun f hf => by simp [rowFl] at hf
  | n + 1 => fun f hf => by
    rcases List.mem_append.1 hf with hf | hf
    · obtain ⟨a, b, c⟩ := rowFl_mem row num n f hf
      exact ⟨a, b, by omega⟩
    · obtain ⟨a1, a2, a3⟩ := floL_ok row num _ f hf
      exact ⟨⟨a1, rfl, a3⟩, by omega, by omega⟩
theorem rowFl_len (row : List Int) (num : Int) : ∀ n, (rowFl row num n).length ≤ n * row.length
  | 0 => by simp [rowFl]
  | n + 1 => by
    have h1 := rowFl_len row num n
    have h2 := floL_len row num ((n : Int) + 1)
    rw [rowFl, List.length_append, Nat.add_mul]
    omega
theorem allFl_mem (rows : List (List Int)) : ∀ i, ∀ f ∈ allFl rows i, 0 ≤ f.row ∧ f.row < i ∧ 0 ≤ f.fr ∧ f.fr < f.til
  | 0 => fun f hf => by simp [allFl] at hf
  | i + 1 => fun f hf => by
    rcases List.mem_append.1 hf with hf | hf
    · obtain ⟨a, b, c⟩ := allFl_mem rows i f hf
      exact ⟨a, by omega, c⟩
    · obtain ⟨⟨a1, -, a3, a4, -⟩, -⟩ := rowFl_mem _ _ _ f hf
      exact ⟨by omega, by omega, a3, a4⟩
theorem rowFl_filter (row : List Int) (num k : Int) : ∀ n : Nat, (rowFl row num n).filter (fun f => decide (f.row = num ∧ f.car = k)) = if 1 ≤ k ∧ k ≤ n then floL row num k else []
  | 0 => by
    rw [if_neg (by omega)]
    rfl
  | n + 1 => by
    rw [rowFl, List.filter_append, rowFl_filter row num k n]
    by_cases hk : k = (n : Int) + 1
    · subst hk
      rw [if_neg (by omega), if_pos (by omega), List.nil_append]
      exact List.filter_eq_self.2 fun f hf => by have h := floL_ok row num _ f hf; exact decide_eq_true ⟨h.1, h.2.1⟩
    · have e : (floL row num ((n : Int) + 1)).filter (fun f => decide (f.row = num ∧ f.car = k)) = [] := List.filter_eq_nil_iff.2 fun f hf => by
        have h := floL_ok row num _ f hf
        simp only [decide_eq_true_eq]
        intro hh
        exact hk (hh.2.symm.trans h.2.1)
      rw [e, List.append_nil]
      by_cases h1 : 1 ≤ k ∧ k ≤ n
      · rw [if_pos h1, if_pos (by omega)]
      · rw [if_neg h1, if_neg (by omega)]
theorem allFl_filter (rows : List (List Int)) (i : Nat) (k : Int) (hk : 1 ≤ k ∧ k ≤ 4) : ∀ m : Nat, (allFl rows m).filter (fun f => decide (f.row = (i : Int) ∧ f.car = k)) = if i < m then floL (colAt rows i) i k else []
  | 0 => rfl
  | m + 1 => by
    rw [allFl, List.filter_append, allFl_filter rows i k hk m]
    by_cases h : i = m
    · subst h
      rw [if_neg (by omega), if_pos (by omega), List.nil_append, rowFl_filter, if_pos (by omega)]
    · have e : (rowFl (colAt rows m) m 4).filter (fun f => decide (f.row = (i : Int) ∧ f.car = k)) = [] := List.filter_eq_nil_iff.2 fun f hf => by
        have h1 := (rowFl_mem _ _ _ f hf).1.1
        simp only [decide_eq_true_eq]
        intro hh
        omega
      rw [e, List.append_nil]
      by_cases h1 : i < m
      · rw [if_pos h1, if_pos (by omega)]
      · rw [if_neg h1, if_neg (by omega)]
/-- floats of another row's number: alike but for the number -/
theorem floTo_num (row : List Int) (num num' k : Int) : ∀ j, (floTo row num' k j).2 = (floTo row num k j).2 ∧ (floTo row num' k j).1 = (floTo row num k j).1.map fun f => ⟨num', f.car, f.fr, f.til⟩
  | 0 => ⟨rfl, rfl⟩
  | j + 1 => by
    obtain ⟨h1, h2⟩ := floTo_num row num num' k j
    unfold floTo floStep
    rw [h1]
    split
    · split
      · exact ⟨rfl, by rw [h2]; simp⟩
      · exact ⟨rfl, h2⟩
    · exact ⟨h1, h2⟩
theorem tuck_num (most : Int) (num' : Int) : ∀ (fs : List FloM) (out : List Int), (fs.map fun f => (⟨num', f.car, f.fr, f.til⟩ : FloM)).foldl (tuckF most) out = fs.foldl (tuckF most) out
  | [], _ => rfl
  | f :: fs, out => by
    rw [List.map_cons, List.foldl_cons, List.foldl_cons, tuck_num most num' fs]
    rfl
/-- the tucks of the floats of one row and carrier, picked out of all -/
def tuckIf (most i k : Int) (out : List Int) (f : FloM) : List Int := if f.row = i ∧ f.car = k then tuckF most out f else out
theorem foldl_tuckIf (most i k : Int) : ∀ (fs : List FloM) (out : List Int), fs.foldl (tuckIf most i k) out = (fs.filter (fun f => decide (f.row = i ∧ f.car = k))).foldl (tuckF most) out
  | [], _ => rfl
  | f :: fs, out => by
    rw [List.foldl_cons, foldl_tuckIf most i k fs]
    unfold tuckIf
    by_cases h : f.row = i ∧ f.car = k
    · rw [if_pos h, List.filter_cons_of_pos (by simpa using h), List.foldl_cons]
    · rw [if_neg h, List.filter_cons_of_neg (by simpa using h)]
theorem tucks_all (most : Int) (rows : List (List Int)) {i : Nat} (hi : i < rows.length) (k : Int) (hk : 1 ≤ k ∧ k ≤ 4) (hm : 0 < most) : (allFl rows rows.length).foldl (tuckIf most i k) (baseSt (colAt rows i) k) = stitM (colAt rows i) k most := by
  rw [foldl_tuckIf, allFl_filter rows i k hk, if_pos hi]
  unfold stitM floL
  rw [if_pos hm, (floTo_num (colAt rows i) 0 i k _).2, tuck_num]
theorem tuckIf_length (most i k : Int) (out : List Int) (f : FloM) : (tuckIf most i k out f).length = out.length := by
  unfold tuckIf
  split
  · exact tuckF_length _ _ _
  · rfl
/-- a valid colour chart -/
def okLine (n : Int) (r : List Int) : Bool := decide ((r.length : Int) = n) && r.all carB
def okCol (c : ColM) : Bool := (inB c.n 1 8 && inB c.rs.length 1 8) && c.rs.all (okLine c.n)
def chartC (c : ColM) (most : Int) : ChartM := ⟨c.n, (colTo most c.rs c.rs.length).rs⟩
def catchK (c : ColM) (most : Int) : Int := if okCol c then if inB most 1 8 then if chartB (chartC c most) then 0 else 5 else 2 else 1
def catchL (c : ColM) (most : Int) : ChartM := if okCol c && inB most 1 8 && chartB (chartC c most) then chartC c most else ⟨0, []⟩
end Go.Proofs.Ytchfjglofmphfaa
end
namespace Go.Proofs.Ytchfjglofmphfaa
/-- a world that grew out of another -/
structure UpOf (w : World) where
  wd : World
  up : Up w wd
instance (w : World) : Nonempty (UpOf w) := ⟨⟨w, Chg.refl _ _⟩⟩
section
variable {P : Program}
theorem wp_region_up {id : Nat} {Q : Exit → Act → World → Prop} {a : Act} {w : World} {l : List Oper} (hm : P.follows .mixedOrders = true) (hB : Region.lexB .any l.toArray = true)
    (h : wpQuiet P l.toArray (fun w' => ∃ u : UpOf w, w' = u.wd) (fun a' => ∀ w', (∃ u : UpOf w, w' = u.wd) → Q .normal a' w') l a) : (Code.region id l.toArray true).wp P Q a w :=
  wp_region_quiet (C := fun w' => ∃ u : UpOf w, w' = u.wd) hm hB ⟨⟨w.drew, (Chg.refl _ _).drew⟩, rfl⟩ (by simpa using h)
theorem calls_up {w : World} {f : FuncId} {args : Array Value} {u : UpOf w} {v : Value}
    (h : Calls P f args u.wd fun e w' => e = .returned v ∧ Up u.wd w') : Calls P f args u.wd fun e w'' => e = .returned v ∧ ∃ u' : UpOf w, w'' = u'.wd :=
  h.mono fun _ _ ⟨he, hw⟩ => ⟨he, ⟨_, Chg.trans u.up hw⟩, rfl⟩
theorem calls_up_same {w : World} {f : FuncId} {args : Array Value} {u : UpOf w} {v : Value}
    (h : Calls P f args u.wd fun e w' => e = .returned v ∧ u.wd = w') : Calls P f args u.wd fun e w'' => e = .returned v ∧ ∃ u' : UpOf w, w'' = u'.wd :=
  h.mono fun _ _ ⟨he, hw⟩ => ⟨he, u, hw.symm⟩
theorem calls_up_new {w : World} {f : FuncId} {args : Array Value} {u : UpOf w} {v : Value}
    (h : Calls P f args u.wd fun e w' => e = .returned v ∧ ∃ o, w' = u.wd.alloc o) : Calls P f args u.wd fun e w'' => e = .returned v ∧ ∃ u' : UpOf w, w'' = u'.wd :=
  h.mono fun _ _ ⟨he, o, hw⟩ => ⟨he, ⟨_, by rw [hw]; exact Chg.alloc u.up o⟩, rfl⟩
theorem up_cell {w : World} {p : Addr} {v : Value} (h : w.cell? p = some v) : ∀ u : UpOf w, u.wd.cell? p = some v := fun u => Chg.cell u.up h id
end
end Go.Proofs.Ytchfjglofmphfaa
section
set_option linter.unusedSimpArgs false
set_option linter.unusedVariables false
namespace Go.Proofs.Ytchfjglofmphfaa
open Go.ChangeShapes Go.WideShapes Go.ChangeAt Go.RowKit
def Nst {α : Type} (m : Nat) (E : World → List Value → α → Prop) (w : World) (R : Nat → Prop) (v : Value) (xs : List α) : Prop :=
  ∃ cs, Raw w R m v xs.length cs ∧ ∀ i (hi : i < xs.length), E w ((cs.drop (i * m)).take m) xs[i]
section
variable {α : Type} {m : Nat} {E E' : World → List Value → α → Prop} {w w' : World} {R S T : Nat → Prop} {v : Value} {xs : List α}
theorem Nst.keep (h : Nst m E w R v xs) (hE : ∀ vs x, E w vs x → E' w' vs x) (g : Chg T w w') (hd : ∀ b, b < w.heap.size → R b → ¬ T b) : Nst m E' w' R v xs :=
  let ⟨cs, h1, h2⟩ := h; ⟨cs, h1.keep g hd, fun i hi => hE _ _ (h2 i hi)⟩
theorem Nst.up (h : Nst m E w R v xs) (hE : ∀ vs x, E w vs x → E w' vs x) (g : Up w w') : Nst m E w' R v xs := h.keep hE g fun _ _ _ h => h
theorem Nst.mono (h : Nst m E w R v xs) (hE : ∀ vs x, E w vs x → E' w vs x) (hs : ∀ b, b < w.heap.size → R b → S b) : Nst m E' w S v xs :=
  let ⟨cs, h1, h2⟩ := h; ⟨cs, h1.mono hs, fun i hi => hE _ _ (h2 i hi)⟩
theorem Nst.shape (h : Nst m E w R v xs) : ∃ A c, v = .slice A xs.length c ∧ xs.length ≤ c ∧ c ≤ 9223372036854775807 ∧ (A = none → c = 0) :=
  let ⟨_, h1, _⟩ := h; h1.shape
theorem Nst.nil (w : World) (R : Nat → Prop) (A : Option Addr) (c : Nat) (hc : c ≤ 9223372036854775807) (hA : A = none → c = 0 := by simp) : Nst m E w R (.slice A 0 c) ([] : List α) :=
  ⟨[], Raw.nil w R m c A hc hA, fun i hi => absurd hi (by simp)⟩
theorem chunk_lt {i n m j : Nat} (hi : i < n) (hj : j < m) : i * m + j < n * m := by
  have : (i + 1) * m ≤ n * m := Nat.mul_le_mul_right m hi
  rw [Nat.add_mul] at this
  omega
theorem Nst.at_ (h : Nst m E w R v xs) {i : Nat} (hi : i < xs.length) : ∃ b o c vs, v = .slice (some ⟨b, o, none⟩) xs.length c ∧ R b ∧ b < w.heap.size ∧ vs.length = m ∧ E w vs xs[i] ∧
    ∀ j u, vs[j]? = some u → w.cell? ⟨b, o + i * m + j, none⟩ = some u ∧ w.frozen? ⟨b, o + i * m + j, none⟩ = false := by
  obtain ⟨cs, ⟨h0, A, c, hv, h1, h2, h4, _⟩, h5⟩ := h
  obtain ⟨b, o, rfl, hs, hb, hc⟩ := h4 (by omega)
  have hlen : ((cs.drop (i * m)).take m).length = m := by
    have : (i + 1) * m ≤ xs.length * m := Nat.mul_le_mul_right m hi
    rw [Nat.add_mul] at this
    simp
    omega
  refine ⟨b, o, c, _, hv, hs, hb, hlen, h5 i hi, fun j u hu => ?_⟩
  have hj : j < m := by
    obtain ⟨hj, _⟩ := List.getElem?_eq_some_iff.1 hu
    omega
  have hlt := chunk_lt hi hj
  have hcc := hc (i * m + j) (by omega)
  rw [← Nat.add_assoc] at hcc
  rw [List.getElem?_take_of_lt hj, List.getElem?_drop] at hu
  obtain ⟨hj2, he⟩ := List.getElem?_eq_some_iff.1 hu
  rw [he] at hcc
  exact hcc
/-- the elements that were copied so far -/
def ChunkIn (m : Nat) (E : World → List Value → α → Prop) (w : World) (cs : List Value) (xs : List α) (j : Nat) : Prop :=
  cs.length = j * m ∧ ∀ i (hi : i < xs.length), i < j → E w ((cs.drop (i * m)).take m) xs[i]
theorem ChunkIn.start : ChunkIn m E w [] xs 0 := ⟨by simp, fun i _ h => by omega⟩
theorem ChunkIn.keep {cs : List Value} {j : Nat} (h : ChunkIn m E w cs xs j) (hE : ∀ vs x, E w vs x → E' w' vs x) : ChunkIn m E' w' cs xs j :=
  ⟨h.1, fun i hi hij => hE _ _ (h.2 i hi hij)⟩
theorem ChunkIn.next {cs vs : List Value} {j : Nat} (h : ChunkIn m E w cs xs j) (hj : j < xs.length) (hl : vs.length = m) (hv : E w vs xs[j]) : ChunkIn m E w (cs ++ vs) xs (j + 1) := by
  refine ⟨by rw [List.length_append, h.1, hl, Nat.add_mul]; omega, fun i hi hij => ?_⟩
  by_cases he : i < j
  · have hle : (i + 1) * m ≤ j * m := Nat.mul_le_mul_right m he
    rw [Nat.add_mul] at hle
    have h1 := h.1
    have e : ((cs ++ vs).drop (i * m)).take m = (cs.drop (i * m)).take m := by
      rw [List.drop_append_of_le_length (by omega), List.take_append_of_le_length (by simp; omega)]
    rw [e]
    exact h.2 i hi he
  · obtain rfl : i = j := by omega
    have e : ((cs ++ vs).drop (i * m)).take m = vs := by
      rw [← h.1, List.drop_left, ← hl, List.take_length]
    rw [e]
    exact hv
theorem Nst.done {cs : List Value} {b : Nat} (h : Copying w b m xs.length xs.length cs) (k : ChunkIn m E w cs xs xs.length) (hS : R b) (hb : b < w.heap.size) (hm : xs.length ≤ 9223372036854775807) : Nst m E w R (.slice (some ⟨b, 0, none⟩) xs.length xs.length) xs :=
  ⟨cs, Copying.done h hS hb k.1 hm, fun i hi => k.2 i hi hi⟩
theorem Copying.grows {b n j : Nat} {cs : List Value} (h : Copying w b m n j cs) (hl : cs.length = j * m) (vs : List Value) : Copying w b m n j (cs ++ vs) := fun t ht => by
  obtain ⟨h1, h2, h3⟩ := h t ht
  refine ⟨h1, h2, fun hlt => ?_⟩
  rw [h3 hlt, List.getElem?_append_left (by omega)]
/-- one element more is laid -/
theorem Copying.nextm {b n j : Nat} {cs vs : List Value} (h : Copying w b m n j cs) (hj : j < n) (hc : cs.length = j * m) (hl : vs.length = m) : Copying (w.setCells b (j * m) vs) b m n (j + 1) (cs ++ vs) :=
  Copying.next (Copying.grows h hc vs) hj hl fun i hi => by
    rw [List.getElem?_append_right (by omega), hc, Nat.add_sub_cancel_left]
    exact List.getElem?_eq_getElem hi
theorem Copying.next1 {b n j : Nat} {cs : List Value} (h : Copying w b 1 n j cs) (hj : j < n) (hc : cs.length = j * 1) (u : Value) : Copying (w.setCell ⟨b, j, none⟩ u) b 1 n (j + 1) (cs ++ [u]) := by
  have h1 := Copying.nextm h hj hc (vs := [u]) rfl
  rw [Nat.mul_one] at h1
  exact h1
/-- the sums of what the first elements are worth -/
def cntF (f : α → Nat) (xs : List α) (j : Nat) : Nat := ((xs.take j).map f).sum
theorem cntF_succ {f : α → Nat} {j : Nat} (h : j < xs.length) : cntF f xs (j + 1) = cntF f xs j + f xs[j] := by
  unfold cntF
  rw [List.take_succ_eq_append_getElem h, List.map_append, List.sum_append]
  simp
theorem cntF_le {f : α → Nat} {i j : Nat} (h : i ≤ j) : cntF f xs i ≤ cntF f xs j := by
  unfold cntF
  have e : (xs.take j) = (xs.take j).take i ++ (xs.take j).drop i := (List.take_append_drop i _).symm
  rw [List.take_take, Nat.min_eq_left h] at e
  rw [e]
  simp
def szF (f : α → Nat) (xs : List α) : Nat := xs.length + cntF f xs xs.length
theorem szF_at {f : α → Nat} {j : Nat} (h : j < xs.length) : f xs[j] + xs.length ≤ szF f xs := by
  have h1 := cntF_succ (f := f) h
  have h2 := cntF_le (f := f) (xs := xs) (show j + 1 ≤ xs.length by omega)
  unfold szF
  omega
end
theorem Up.of_eq {w w' : World} (h : w = w') : Up w w' := h ▸ Chg.refl _ _
theorem CellF.set {w : World} {p : Addr} {u u' : Value} (h : CellF w p u') : CellF (w.setCell p u) p u := ⟨World.cell?_setCell_same _ _ _ h.1, by simpa using h.2⟩
theorem CellF.set_ne {w : World} {p q : Addr} {u x : Value} (h : CellF w p u) (hn : p ≠ q) : CellF (w.setCell q x) p u := ⟨(World.cell?_setCell_other _ _ _ _ (Ne.symm hn)).trans h.1, by simpa using h.2⟩
/-- blocks between lo and hi, of three kinds: rows of structs, rows of slices, rows of numbers -/
def ApartN (lo hi : Nat) (M H L : Nat → Prop) : Prop :=
  (∀ b, M b ∨ H b ∨ L b → lo ≤ b ∧ b < hi) ∧ (∀ b, M b → ¬ H b) ∧ (∀ b, M b → ¬ L b) ∧ (∀ b, H b → ¬ L b)
def Un (A B : Nat → Prop) : Nat → Prop := fun b => A b ∨ B b
theorem ApartN.none (lo hi : Nat) : ApartN lo hi Nowhere Nowhere Nowhere := ⟨fun b h => h.elim (fun h => h.elim) fun h => h.elim (fun h => h.elim) fun h => h.elim, fun b h => h.elim, fun b h => h.elim, fun b h => h.elim⟩
theorem ApartN.row {lo hi g : Nat} (h1 : lo ≤ g) (h2 : g < hi) : ApartN lo hi Nowhere (fun b => b = g) (New (g + 1) hi) :=
  ⟨fun b h => by
    rcases h with h | h | h
    · exact h.elim
    · have h : b = g := h
      omega
    · have := h.1
      exact ⟨by omega, h.2⟩, fun b h => h.elim, fun b h => h.elim, fun b h k => by
    have h : b = g := h
    have := k.1
    omega⟩
theorem ApartN.leaf {lo hi g : Nat} (h1 : lo ≤ g) : ApartN lo hi Nowhere Nowhere (New g hi) :=
  ⟨fun b h => by
    rcases h with h | h | h
    · exact h.elim
    · exact h.elim
    · exact ⟨Nat.le_trans h1 h.1, h.2⟩, fun b h => h.elim, fun b h => h.elim, fun b h => h.elim⟩
theorem ApartN.widen {lo lo' hi hi' : Nat} {M H L : Nat → Prop} (h : ApartN lo hi M H L) (h1 : lo' ≤ lo) (h2 : hi ≤ hi') : ApartN lo' hi' M H L :=
  ⟨fun b hb => by
    have := h.1 b hb
    omega, h.2⟩
theorem ApartN.un {lo mid hi : Nat} {M H L M' H' L' : Nat → Prop} (h : ApartN lo mid M H L) (k : ApartN mid hi M' H' L') (h1 : lo ≤ mid) (h2 : mid ≤ hi) : ApartN lo hi (Un M M') (Un H H') (Un L L') := by
  have a1 : ∀ b, M b → b < mid := fun b x => (h.1 b (.inl x)).2
  have a2 : ∀ b, H b → b < mid := fun b x => (h.1 b (.inr (.inl x))).2
  have a3 : ∀ b, L b → b < mid := fun b x => (h.1 b (.inr (.inr x))).2
  have c1 : ∀ b, M' b → mid ≤ b := fun b x => (k.1 b (.inl x)).1
  have c2 : ∀ b, H' b → mid ≤ b := fun b x => (k.1 b (.inr (.inl x))).1
  have c3 : ∀ b, L' b → mid ≤ b := fun b x => (k.1 b (.inr (.inr x))).1
  refine ⟨fun b x => ?_, fun b x y => ?_, fun b x y => ?_, fun b x y => ?_⟩
  · rcases x with (x | x) | (x | x) | (x | x)
    · have := h.1 b (.inl x); omega
    · have := k.1 b (.inl x); omega
    · have := h.1 b (.inr (.inl x)); omega
    · have := k.1 b (.inr (.inl x)); omega
    · have := h.1 b (.inr (.inr x)); omega
    · have := k.1 b (.inr (.inr x)); omega
  · rcases x with x | x <;> rcases y with y | y
    · exact h.2.1 b x y
    · have := a1 b x; have := c2 b y; omega
    · have := c1 b x; have := a2 b y; omega
    · exact k.2.1 b x y
  · rcases x with x | x <;> rcases y with y | y
    · exact h.2.2.1 b x y
    · have := a1 b x; have := c3 b y; omega
    · have := c1 b x; have := a3 b y; omega
    · exact k.2.2.1 b x y
  · rcases x with x | x <;> rcases y with y | y
    · exact h.2.2.2 b x y
    · have := a2 b x; have := c3 b y; omega
    · have := c2 b x; have := a3 b y; omega
    · exact k.2.2.2 b x y
theorem ApartN.addRow {lo g hi : Nat} {M H L : Nat → Prop} (h : ApartN (g + 1) hi M H L) (h1 : lo ≤ g) (h2 : g < hi) : ApartN lo hi (Un (fun b => b = g) M) H L := by
  have a : ∀ b, M b ∨ H b ∨ L b → g < b := fun b x => (h.1 b x).1
  refine ⟨fun b x => ?_, fun b x y => ?_, fun b x y => ?_, h.2.2.2⟩
  · rcases x with (x | x) | x
    · have x : b = g := x
      omega
    · have := h.1 b (.inl x); omega
    · have := h.1 b (.inr x); omega
  · rcases x with x | x
    · have x : b = g := x
      have := a b (.inr (.inl y))
      omega
    · exact h.2.1 b x y
  · rcases x with x | x
    · have x : b = g := x
      have := a b (.inr (.inr y))
      omega
    · exact h.2.2.1 b x y
end Go.Proofs.Ytchfjglofmphfaa
end
section
set_option linter.unusedSimpArgs false
set_option linter.unusedVariables false
set_option maxRecDepth 100000
set_option maxHeartbeats 1000000
namespace Go.Proofs.Ytchfjglofmphfaa
open Go.ChangeShapes Go.WideShapes Go.ChangeAt Go.RowKit
def IntsE (L : Nat → Prop) (w : World) (vs : List Value) (x : List Int) : Prop := ∃ A c, vs = [.slice A x.length c] ∧ Ints w L (.slice A x.length c) x ∧ x.length ≤ c ∧ c ≤ 9223372036854775807
theorem IntsE.val {L : Nat → Prop} {w : World} {vs : List Value} {x : List Int} (h : IntsE L w vs x) : ∃ A c, vs = [.slice A x.length c] ∧ Ints w L (.slice A x.length c) x ∧ x.length ≤ c ∧ c ≤ 9223372036854775807 := h
theorem IntsE.keep {L T : Nat → Prop} {w w' : World} {vs : List Value} {x : List Int} (h : IntsE L w vs x) (g : Chg T w w') (hd : ∀ b, b < w.heap.size → L b → ¬ T b) : IntsE L w' vs x := let ⟨A, c, h1, h2, h3⟩ := h; ⟨A, c, h1, h2.keep g hd, h3⟩
theorem IntsE.up {L : Nat → Prop} {w w' : World} {vs : List Value} {x : List Int} (h : IntsE L w vs x) (g : Up w w') : IntsE L w' vs x := h.keep g fun _ _ _ h => h
theorem IntsE.mono {L T : Nat → Prop} {w : World} {vs : List Value} {x : List Int} (h : IntsE L w vs x) (hs : ∀ b, b < w.heap.size → L b → T b) : IntsE T w vs x := let ⟨A, c, h1, h2, h3⟩ := h; ⟨A, c, h1, h2.mono hs, h3⟩
def IntSSV (w : World) (M H L : Nat → Prop) (v : Value) (xs : List (List Int)) : Prop := Nst 1 (IntsE L) w H v xs
theorem IntSSV.keep {M H L T : Nat → Prop} {w w' : World} {v : Value} {xs : List (List Int)} (h : IntSSV w M H L v xs) (g : Chg T w w') (hd : ∀ b, M b ∨ H b ∨ L b → ¬ T b) : IntSSV w' M H L v xs :=
  Nst.keep h (fun _ _ k => IntsE.keep k g (fun b _ h => hd b (.inr (.inr h)))) g (fun b _ h => hd b (.inr (.inl h)))
theorem IntSSV.up {M H L : Nat → Prop} {w w' : World} {v : Value} {xs : List (List Int)} (h : IntSSV w M H L v xs) (g : Up w w') : IntSSV w' M H L v xs := h.keep g fun _ _ h => h
theorem IntSSV.mono {M H L M' H' L' : Nat → Prop} {w : World} {v : Value} {xs : List (List Int)} (h : IntSSV w M H L v xs) (hm : ∀ b, b < w.heap.size → M b → M' b) (hr : ∀ b, b < w.heap.size → H b → H' b) (hl : ∀ b, b < w.heap.size → L b → L' b) : IntSSV w M' H' L' v xs :=
  Nst.mono h (fun _ _ k => IntsE.mono k hl) hr
theorem IntSSV.shape {M H L : Nat → Prop} {w : World} {v : Value} {xs : List (List Int)} (h : IntSSV w M H L v xs) : ∃ A c, v = .slice A xs.length c ∧ xs.length ≤ c ∧ c ≤ 9223372036854775807 ∧ (A = none → c = 0) := Nst.shape h
theorem IntSSV.at_ {M H L : Nat → Prop} {w : World} {v : Value} {xs : List (List Int)} (h : IntSSV w M H L v xs) {i : Nat} (hi : i < xs.length) : ∃ b o c vs, v = .slice (some ⟨b, o, none⟩) xs.length c ∧ H b ∧ b < w.heap.size ∧ vs.length = 1 ∧ IntsE L w vs xs[i] ∧
    ∀ j u, vs[j]? = some u → w.cell? ⟨b, o + i * 1 + j, none⟩ = some u ∧ w.frozen? ⟨b, o + i * 1 + j, none⟩ = false := Nst.at_ h hi
theorem szIntSSV_ok (w : World) (M H L : Nat → Prop) (v : Value) (xs : List (List Int)) (k : Int) (hk : 0 ≤ k ∧ k ≤ 1048576) (hl : (szF List.length xs : Int) ≤ k) (h : IntSSV w M H L v xs) :
    Calls Try.prog 42 #[v, .int .i64 k] w fun e w' => e = .returned (.int .i64 (k - szF List.length xs)) ∧ Up w w' := by
  obtain ⟨A, c, rfl, hlc, hcm, -⟩ := h.shape
  have H := Lib.hid h
  have HC : Hid (szF List.length xs = xs.length + cntF List.length xs xs.length) := Lib.hid rfl
  have HL := Lib.hid hl
  clear h hl
  have hd : decide (k - (xs.length : Int) < 0) = false := decide_eq_false (by have := HL.out; have := HC.out; omega)
  go_enter Try.func42, Try.ntmps42
  go_wp2
  go_loopw [1, 5] (fun q i wr => ∃ (j : Nat), j ≤ xs.length ∧ i = .int .i64 j ∧ q = .int .i64 (k - xs.length - cntF List.length xs j) ∧ Hid (0 ≤ k - xs.length - cntF List.length xs j) ∧ Hid (Up w wr)) (fun _ i _ => xs.length - (intOf i).toNat)
  case atStart => exact ⟨0, by omega, rfl, by simp [cntF], Lib.hid (by have := HL.out; have := HC.out; simp [cntF]; omega), Chg.refl _ _⟩
  case round =>
    obtain ⟨j, hj, rfl, rfl, hp, hu⟩ := hrel
    by_cases hlt : j < xs.length
    · have HS := Lib.hid (cntF_succ (f := List.length) hlt)
      have HM := Lib.hid (cntF_le (f := List.length) (xs := xs) (show j + 1 ≤ xs.length by omega))
      obtain ⟨b3, o3, c3', vs3, he3, -, -, -, hE3, hc3⟩ := (H.out.up hu.out).at_ hlt
      obtain ⟨rfl, rfl⟩ : A = some ⟨b3, o3, none⟩ ∧ c = c3' := by simpa using he3
      obtain ⟨A3, k3, rfl, hv3, -⟩ := IntsE.val hE3
      have f0 := (hc3 0 _ rfl).1
      simp only [Nat.mul_one, Nat.add_zero] at f0
      have HV3 := Lib.hid hv3
      clear hc3 hv3 he3
      obtain ⟨q, hq⟩ : ∃ q, q = k - (xs.length : Int) - cntF List.length xs j := ⟨_, rfl⟩
      rw [← hq] at hp ⊢
      have HQ := Lib.hid hq
      have HB : Hid (0 ≤ q ∧ q ≤ 1048576) := Lib.hid (by have := hp.out; omega)
      clear hq
      have HX : Hid ((xs[j].length : Int) ≤ q) := Lib.hid (by have h1 := HS.out; have h2 := HM.out; have h3 := HL.out; have h4 := HC.out; have h5 := HQ.out; omega)
      go_wp2_with fail
      with_reducible refine (szInts_ok _ _ _ _ _ HB.out HX.out HV3.out).mono ?_
      rintro e w1 ⟨rfl, g1⟩
      have G1 := Lib.hid (Chg.trans hu.out (Up.of_eq g1))
      have hd2 : decide (q - (xs[j].length : Int) < 0) = false := decide_eq_false (by have := HX.out; omega)
      clear f0 g1
      go_wp2
      go_roundw
      case rel => exact ⟨j + 1, by omega, by go_num, by rw [HS.out, HQ.out]; congr 1; omega, Lib.hid (by have h1 := HS.out; have h2 := HQ.out; have h3 := HX.out; omega), G1.out⟩
      case measure => first | (simp [intOf]; done) | (simp [intOf]; omega)
    · obtain rfl : j = xs.length := by omega
      go_wp2
      go_ret
      exact ⟨ret_int (by rw [HC.out]; omega), hu.out⟩
theorem szIntSSV_no (w : World) (M H L : Nat → Prop) (v : Value) (xs : List (List Int)) (k : Int) (hk : 0 ≤ k ∧ k ≤ 1048576) (hl : k < (szF List.length xs : Int)) (h : IntSSV w M H L v xs) :
    Calls Try.prog 42 #[v, .int .i64 k] w fun e w' => e = .returned (.int .i64 (-1)) ∧ Up w w' := by
  obtain ⟨A, c, rfl, hlc, hcm, -⟩ := h.shape
  have H := Lib.hid h
  have HC : Hid (szF List.length xs = xs.length + cntF List.length xs xs.length) := Lib.hid rfl
  have HL := Lib.hid hl
  clear h hl
  by_cases h0 : k < (xs.length : Int)
  · have hd : decide (k - (xs.length : Int) < 0) = true := decide_eq_true (by omega)
    go_enter Try.func42, Try.ntmps42
    go_wp2
    go_ret
    exact ⟨rfl, Chg.refl _ _⟩
  have hd : decide (k - (xs.length : Int) < 0) = false := decide_eq_false (by have := HL.out; have := HC.out; omega)
  go_enter Try.func42, Try.ntmps42
  go_wp2
  go_loopw [1, 5] (fun q i wr => ∃ (j : Nat), j ≤ xs.length ∧ i = .int .i64 j ∧ q = .int .i64 (k - xs.length - cntF List.length xs j) ∧ Hid (0 ≤ k - xs.length - cntF List.length xs j) ∧ Hid (Up w wr)) (fun _ i _ => xs.length - (intOf i).toNat)
  case atStart => exact ⟨0, by omega, rfl, by simp [cntF], Lib.hid (by have := HL.out; have := HC.out; simp [cntF]; omega), Chg.refl _ _⟩
  case round =>
    obtain ⟨j, hj, rfl, rfl, hp, hu⟩ := hrel
    by_cases hlt : j < xs.length
    · have HS := Lib.hid (cntF_succ (f := List.length) hlt)
      have HM := Lib.hid (cntF_le (f := List.length) (xs := xs) (show j + 1 ≤ xs.length by omega))
      obtain ⟨b3, o3, c3', vs3, he3, -, -, -, hE3, hc3⟩ := (H.out.up hu.out).at_ hlt
      obtain ⟨rfl, rfl⟩ : A = some ⟨b3, o3, none⟩ ∧ c = c3' := by simpa using he3
      obtain ⟨A3, k3, rfl, hv3, -⟩ := IntsE.val hE3
      have f0 := (hc3 0 _ rfl).1
      simp only [Nat.mul_one, Nat.add_zero] at f0
      have HV3 := Lib.hid hv3
      clear hc3 hv3 he3
      obtain ⟨q, hq⟩ : ∃ q, q = k - (xs.length : Int) - cntF List.length xs j := ⟨_, rfl⟩
      rw [← hq] at hp ⊢
      have HQ := Lib.hid hq
      have HB : Hid (0 ≤ q ∧ q ≤ 1048576) := Lib.hid (by have := hp.out; omega)
      clear hq
      by_cases hx : (xs[j].length : Int) ≤ q
      rotate_left
      · have HX : Hid (q < (xs[j].length : Int)) := Lib.hid (by omega)
        clear hx
        go_wp2_with fail
        with_reducible refine (szInts_no _ _ _ _ _ HB.out HX.out HV3.out).mono ?_
        rintro e w1 ⟨rfl, g1⟩
        have G1 := Lib.hid (Chg.trans hu.out (Up.of_eq g1))
        have hd2 : decide ((-1 : Int) < 0) = true := rfl
        clear f0 g1
        go_wp2
        go_ret
        exact ⟨by simp, G1.out⟩
      have HX := Lib.hid hx
      clear hx
      go_wp2_with fail
      with_reducible refine (szInts_ok _ _ _ _ _ HB.out HX.out HV3.out).mono ?_
      rintro e w1 ⟨rfl, g1⟩
      have G1 := Lib.hid (Chg.trans hu.out (Up.of_eq g1))
      have hd2 : decide (q - (xs[j].length : Int) < 0) = false := decide_eq_false (by have := HX.out; omega)
      clear f0 g1
      go_wp2
      go_roundw
      case rel => exact ⟨j + 1, by omega, by go_num, by rw [HS.out, HQ.out]; congr 1; omega, Lib.hid (by have h1 := HS.out; have h2 := HQ.out; have h3 := HX.out; omega), G1.out⟩
      case measure => first | (simp [intOf]; done) | (simp [intOf]; omega)
    · obtain rfl : j = xs.length := by omega
      exact absurd hp.out (by have := HL.out; have := HC.out; omega)
theorem infoIntSSV : (Try.prog.info? 25).map (fun i => (i.zero, i.size, i.bytes)) = some (some (.slice none 0 0), 1, 24) := by kernel_rfl
theorem toIntSSV_any (w : World) (M H L : Nat → Prop) (v : Value) (xs : List (List Int)) (hb : szF List.length xs ≤ 1048576) (h : IntSSV w M H L v xs) :
    Calls Try.prog 50 #[v] w fun e w' => ∃ u M' H' L', e = .returned u ∧ ApartN w.heap.size w'.heap.size M' H' L' ∧ IntSSV w' M' H' L' u xs ∧ Up w w' := by
  obtain ⟨A, c, rfl, hlc, hcm, -⟩ := h.shape
  have H := Lib.hid h
  have hbl : xs.length ≤ 1048576 := by unfold szF at hb; omega
  have HB := Lib.hid hb
  clear h hb
  obtain ⟨i0, hi, hz0, hz1, hz2⟩ := info_parts infoIntSSV
  have hmk : ∀ u : World, (Instr.makeSlice 22 (.int .i64 (xs.length : Int)) (.int .i64 (xs.length : Int))).run Try.prog u =
      .ok (.slice (some ⟨u.heap.size, 0, none⟩) xs.length xs.length) (u.alloc (.cells (madeCells #[Value.slice none 0 0] (xs.length * 1)) 25)) := fun u => by
    have h := run_make (P := Try.prog) u 22 25 i0 (.slice none 0 0) Try.underlying22 hi hz0 .i64 .i64 (xs.length : Int) (xs.length : Int) (by omega) (Int.le_refl _) (by rw [hz2]; omega) (by omega)
    simpa [hz1, Value.cells] using h
  go_enter Try.func50, Try.ntmps50
  go_wp2
  have Hi := Lib.hid hmk
  clear hmk hi hz0 hz1 hz2
  go_loopw [4] (fun i wr => ∃ (j : Nat) (cs : List Value), j ≤ xs.length ∧ i = .int .i64 j ∧ Hid (Up w wr) ∧ w.heap.size < wr.heap.size ∧ Hid (Copying wr w.heap.size 1 xs.length j cs) ∧ Hid (ChunkIn 1 (IntsE (fun b => w.heap.size < b)) wr cs xs j)) (fun i _ => xs.length - (intOf i).toNat)
  case atStart => exact ⟨0, [], by omega, rfl, (Chg.refl _ _).alloc _, by simp, Copying.start _ _ _ _ _ _ (by simp [size_madeCells]), ChunkIn.start⟩
  case round =>
    obtain ⟨j, cs, hj, rfl, hg, hsz, hcs, hin⟩ := hrel
    by_cases hlt : j < xs.length
    · have HBJ : Hid (cntInts xs[j] ≤ 8388608) := Lib.hid (by have h1 := szF_at (f := List.length) hlt; have h3 := HB.out; unfold cntInts; omega)
      obtain ⟨b3, o3, c3', vs3, he3, -, -, -, hE3, hc3⟩ := (H.out.up hg.out).at_ hlt
      obtain ⟨rfl, rfl⟩ : A = some ⟨b3, o3, none⟩ ∧ c = c3' := by simpa using he3
      obtain ⟨A3, k3, rfl, hv3, -⟩ := IntsE.val hE3
      have f0 := (hc3 0 _ rfl).1
      simp only [Nat.mul_one, Nat.add_zero] at f0
      have HV3 := Lib.hid hv3
      clear hc3 hv3 he3
      go_wp2_with fail
      with_reducible refine (toInts _ _ _ xs[j] HBJ.out HV3.out).mono ?_
      rintro e w2 ⟨u, rfl, k2, g2⟩
      obtain ⟨A4, k4, rfl, hl4, hc4, -⟩ := k2.shape
      have hcs := Lib.hid (Copying.up hcs.out g2)
      have hin := Lib.hid (ChunkIn.keep (E' := IntsE (fun b => w.heap.size < b)) hin.out (fun _ _ h => IntsE.up h g2))
      have HG := Lib.hid (Chg.trans hg.out g2)
      have K4 := Lib.hid (k2.mono (T := fun b => w.heap.size < b) (fun b _ hb => by have := hb.1; omega))
      have hsz2 := Nat.lt_of_lt_of_le hsz g2.size
      clear g2 k2 f0
      obtain ⟨u0, x0, q0⟩ := hcs.out.cell hlt 0 (by omega)
      simp only [Nat.mul_one, Nat.add_zero] at x0 q0
      go_wp2
      go_roundw
      case rel =>
        exact ⟨j + 1, cs ++ [.slice A4 xs[j].length k4], by omega, by go_num, HG.out.setCell (.inr (Nat.le_refl _)) _, by simpa [World.setCell] using hsz2, Lib.hid (Copying.next1 hcs.out hlt hin.out.1 _), Lib.hid (ChunkIn.keep (E' := IntsE (fun b => w.heap.size < b)) (ChunkIn.next hin.out hlt rfl (vs := [.slice A4 xs[j].length k4]) ⟨A4, k4, rfl, K4.out, hl4, hc4⟩) (fun _ _ h => IntsE.keep h (T := fun b => b = w.heap.size) (Chg.setCell (Chg.refl (fun b => b = w.heap.size) _) (p := ⟨w.heap.size, j, none⟩) (.inl rfl) _) (fun b _ h1 h2 => by have h2 : b = w.heap.size := h2; omega)))⟩
      case measure => first | (simp [intOf]; done) | (simp [intOf]; omega)
    · obtain rfl : j = xs.length := by omega
      go_wp2
      go_ret
      exact ⟨_, _, _, _, rfl, ApartN.row (Nat.le_refl _) hsz, (Nst.done (R := fun b => b = w.heap.size) hcs.out hin.out rfl hsz (by omega)).mono (fun vs x h => IntsE.mono h fun b h1 h2 => ⟨h2, h1⟩) (fun _ _ h => h), hg.out⟩
theorem eqIntSSV_same (w : World) (M H L M' H' L' : Nat → Prop) (v u : Value) (xs : List (List Int)) (h : IntSSV w M H L v xs) (h2 : IntSSV w M' H' L' u xs) :
    Calls Try.prog 58 #[v, u] w fun e w' => e = .returned (.bool true) ∧ Up w w' := by
  obtain ⟨A, c, rfl, hlc, hcm, -⟩ := h.shape
  obtain ⟨A2, c2, rfl, hlc2, hcm2, -⟩ := h2.shape
  have H := Lib.hid h
  have H2 := Lib.hid h2
  clear h h2
  go_enter Try.func58, Try.ntmps58
  go_wp2
  go_loopw [5] (fun i wr => ∃ (j : Nat), j ≤ xs.length ∧ i = .int .i64 j ∧ Hid (Up w wr)) (fun i _ => xs.length - (intOf i).toNat)
  case atStart => exact ⟨0, by omega, rfl, Chg.refl _ _⟩
  case round =>
    obtain ⟨j, hj, rfl, hu⟩ := hrel
    by_cases hlt : j < xs.length
    · obtain ⟨b3, o3, c3', vs3, he3, -, -, -, hE3, hc3⟩ := (H.out.up hu.out).at_ hlt
      obtain ⟨rfl, rfl⟩ : A = some ⟨b3, o3, none⟩ ∧ c = c3' := by simpa using he3
      obtain ⟨A3, k3, rfl, hv3, -⟩ := IntsE.val hE3
      have f0 := (hc3 0 _ rfl).1
      simp only [Nat.mul_one, Nat.add_zero] at f0
      have HV3 := Lib.hid hv3
      clear hc3 hv3 he3
      obtain ⟨b5, o5, c5', vs5, he5, -, -, -, hE5, hc5⟩ := (H2.out.up hu.out).at_ hlt
      obtain ⟨rfl, rfl⟩ : A2 = some ⟨b5, o5, none⟩ ∧ c2 = c5' := by simpa using he5
      obtain ⟨A5, k5, rfl, hv5, -⟩ := IntsE.val hE5
      have e0 := (hc5 0 _ rfl).1
      simp only [Nat.mul_one, Nat.add_zero] at e0
      have HV5 := Lib.hid hv5
      clear hc5 hv5 he5
      go_wp2
      have qf0 := up_cell f0
      have qe0 := up_cell e0
      clear f0 e0
      refine wp_region_up (by kernel_rfl) (by kernel_rfl) ?_
      repeat (go_big_quiet_step (first | (go_at_call 61; with_reducible exact calls_up (((eqInt64S_same _ _ _ _ _ _ (HV3.out.up (UpOf.up _)) (HV5.out.up (UpOf.up _))).mono fun _ _ h => ⟨h.1, h.2.up⟩)))))
      refine wpQuiet_nil ?_
      rintro _ ⟨u, rfl⟩
      go_wp2
      go_roundw
      case rel => exact ⟨j + 1, by omega, by go_num, Lib.hid (Chg.trans hu.out u.up)⟩
      case measure => first | (simp [intOf]; done) | (simp [intOf]; omega)
    · obtain rfl : j = xs.length := by omega
      go_wp2
      go_ret
      exact ⟨rfl, hu.out⟩
end Go.Proofs.Ytchfjglofmphfaa
end
section
set_option linter.unusedSimpArgs false
set_option linter.unusedVariables false
set_option maxRecDepth 100000
set_option maxHeartbeats 1000000
namespace Go.Proofs.Ytchfjglofmphfaa
open Go.ChangeShapes Go.WideShapes Go.ChangeAt Go.RowKit
structure NormM where
  n : Int
  p : Int
  fs : List (List Int)
def NormE (M H L : Nat → Prop) (w : World) (vs : List Value) (x : NormM) : Prop := ∃ A c, vs = [.int .i64 x.n, .int .i64 x.p, .slice A x.fs.length c] ∧ IntSSV w M H L (.slice A x.fs.length c) x.fs ∧ (x.fs.length ≤ c ∧ c ≤ 9223372036854775807) ∧ I64 x.n ∧ I64 x.p
theorem NormE.keep {M H L T : Nat → Prop} {w w' : World} {vs : List Value} {x : NormM} (h : NormE M H L w vs x) (g : Chg T w w') (hd : ∀ b, M b ∨ H b ∨ L b → ¬ T b) : NormE M H L w' vs x := let ⟨A, c, he, h0, h1, h2, h3⟩ := h; ⟨A, c, he, h0.keep g hd, h1, h2, h3⟩
theorem NormE.up {M H L : Nat → Prop} {w w' : World} {vs : List Value} {x : NormM} (h : NormE M H L w vs x) (g : Up w w') : NormE M H L w' vs x := h.keep g fun _ _ h => h
theorem NormE.mono {M H L M' H' L' : Nat → Prop} {w : World} {vs : List Value} {x : NormM} (h : NormE M H L w vs x) (hm : ∀ b, b < w.heap.size → M b → M' b) (hr : ∀ b, b < w.heap.size → H b → H' b) (hl : ∀ b, b < w.heap.size → L b → L' b) : NormE M' H' L' w vs x := let ⟨A, c, he, h0, h1, h2, h3⟩ := h; ⟨A, c, he, h0.mono hm hr hl, h1, h2, h3⟩
def NormV (w : World) (M H L : Nat → Prop) (v : Value) (x : NormM) : Prop := ∃ A c, v = .agg #[.int .i64 x.n, .int .i64 x.p, .slice A x.fs.length c] ∧ IntSSV w M H L (.slice A x.fs.length c) x.fs ∧ (x.fs.length ≤ c ∧ c ≤ 9223372036854775807) ∧ I64 x.n ∧ I64 x.p
theorem NormV.keep {M H L T : Nat → Prop} {w w' : World} {v : Value} {x : NormM} (h : NormV w M H L v x) (g : Chg T w w') (hd : ∀ b, M b ∨ H b ∨ L b → ¬ T b) : NormV w' M H L v x := let ⟨A, c, he, h0, h1, h2, h3⟩ := h; ⟨A, c, he, h0.keep g hd, h1, h2, h3⟩
theorem NormV.up {M H L : Nat → Prop} {w w' : World} {v : Value} {x : NormM} (h : NormV w M H L v x) (g : Up w w') : NormV w' M H L v x := h.keep g fun _ _ h => h
theorem NormV.mono {M H L M' H' L' : Nat → Prop} {w : World} {v : Value} {x : NormM} (h : NormV w M H L v x) (hm : ∀ b, b < w.heap.size → M b → M' b) (hr : ∀ b, b < w.heap.size → H b → H' b) (hl : ∀ b, b < w.heap.size → L b → L' b) : NormV w M' H' L' v x := let ⟨A, c, he, h0, h1, h2, h3⟩ := h; ⟨A, c, he, h0.mono hm hr hl, h1, h2, h3⟩
theorem NormE.val {M H L : Nat → Prop} {w : World} {vs : List Value} {x : NormM} (h : NormE M H L w vs x) : ∃ A c, vs = [.int .i64 x.n, .int .i64 x.p, .slice A x.fs.length c] ∧ NormV w M H L (.agg #[.int .i64 x.n, .int .i64 x.p, .slice A x.fs.length c]) x :=
  let ⟨A, c, he, h0, h1, h2, h3⟩ := h; ⟨A, c, he, A, c, rfl, h0, h1, h2, h3⟩
theorem NormV.val {M H L : Nat → Prop} {w : World} {v : Value} {x : NormM} (h : NormV w M H L v x) : ∃ A c, v = .agg #[.int .i64 x.n, .int .i64 x.p, .slice A x.fs.length c] ∧ NormV w M H L (.agg #[.int .i64 x.n, .int .i64 x.p, .slice A x.fs.length c]) x := by
  obtain ⟨A, c, rfl, h0, h1, h2, h3⟩ := h
  exact ⟨_, _, rfl, _, _, rfl, h0, h1, h2, h3⟩
theorem NormV.parts {M H L : Nat → Prop} {w : World} {v : Value} {x : NormM} (h : NormV w M H L v x) : ∃ A c, v = .agg #[.int .i64 x.n, .int .i64 x.p, .slice A x.fs.length c] ∧ IntSSV w M H L (.slice A x.fs.length c) x.fs ∧ (x.fs.length ≤ c ∧ c ≤ 9223372036854775807) ∧ I64 x.n ∧ I64 x.p := h
theorem NormE.mk {M H L : Nat → Prop} {w : World} {x : NormM} {B : Option Addr} {d : Nat} (h : NormV w M H L (.agg #[.int .i64 x.n, .int .i64 x.p, .slice B x.fs.length d]) x) : NormE M H L w [.int .i64 x.n, .int .i64 x.p, .slice B x.fs.length d] x := by
  obtain ⟨A, c, he, h0, h1, h2, h3⟩ := h
  simp only [Value.agg.injEq, Array.mk.injEq, List.cons.injEq, Value.slice.injEq, true_and, and_true] at he
  obtain ⟨rfl, rfl⟩ := he
  exact ⟨_, _, rfl, h0, h1, h2, h3⟩
def NormSV (w : World) (M H L : Nat → Prop) (v : Value) (xs : List NormM) : Prop := Nst 3 (NormE M H L) w M v xs
theorem NormSV.keep {M H L T : Nat → Prop} {w w' : World} {v : Value} {xs : List NormM} (h : NormSV w M H L v xs) (g : Chg T w w') (hd : ∀ b, M b ∨ H b ∨ L b → ¬ T b) : NormSV w' M H L v xs :=
  Nst.keep h (fun _ _ k => NormE.keep k g hd) g (fun b _ h => hd b (.inl h))
theorem NormSV.up {M H L : Nat → Prop} {w w' : World} {v : Value} {xs : List NormM} (h : NormSV w M H L v xs) (g : Up w w') : NormSV w' M H L v xs := h.keep g fun _ _ h => h
theorem NormSV.mono {M H L M' H' L' : Nat → Prop} {w : World} {v : Value} {xs : List NormM} (h : NormSV w M H L v xs) (hm : ∀ b, b < w.heap.size → M b → M' b) (hr : ∀ b, b < w.heap.size → H b → H' b) (hl : ∀ b, b < w.heap.size → L b → L' b) : NormSV w M' H' L' v xs :=
  Nst.mono h (fun _ _ k => NormE.mono k hm hr hl) hm
theorem NormSV.shape {M H L : Nat → Prop} {w : World} {v : Value} {xs : List NormM} (h : NormSV w M H L v xs) : ∃ A c, v = .slice A xs.length c ∧ xs.length ≤ c ∧ c ≤ 9223372036854775807 ∧ (A = none → c = 0) := Nst.shape h
theorem NormSV.at_ {M H L : Nat → Prop} {w : World} {v : Value} {xs : List NormM} (h : NormSV w M H L v xs) {i : Nat} (hi : i < xs.length) : ∃ b o c vs, v = .slice (some ⟨b, o, none⟩) xs.length c ∧ M b ∧ b < w.heap.size ∧ vs.length = 3 ∧ NormE M H L w vs xs[i] ∧
    ∀ j u, vs[j]? = some u → w.cell? ⟨b, o + i * 3 + j, none⟩ = some u ∧ w.frozen? ⟨b, o + i * 3 + j, none⟩ = false := Nst.at_ h hi
theorem eqNorm_same (w : World) (M H L M' H' L' : Nat → Prop) (v u : Value) (x : NormM) (hv : NormV w M H L v x) (hu : NormV w M' H' L' u x) :
    Calls Try.prog 156 #[v, u] w fun e w' => e = .returned (.bool true) ∧ Up w w' := by
  obtain ⟨A, c, rfl, h0, h1, h2, h3⟩ := hv
  obtain ⟨B, d, rfl, g0, g1, g2, g3⟩ := hu
  have U0 := Lib.hid (show Up w ((w.alloc (.cells #[.int .i64 x.n, .int .i64 x.p, .slice A x.fs.length c] 151)).alloc (.cells #[.int .i64 x.n, .int .i64 x.p, .slice B x.fs.length d] 151)) from (by repeat (first | exact Chg.refl _ _ | apply Chg.drew | apply Chg.drewN | refine Chg.alloc ?_ _)))
  have H0 := Lib.hid (h0.up U0.out)
  have G0 := Lib.hid (g0.up U0.out)
  clear h0 h1 h2 h3 g0 g1 g2 g3
  have e0 : (x.n != x.n) = false := by simp
  have e1 : (x.p != x.p) = false := by simp
  have q0 := Chg.cell ((Chg.refl Nowhere (w.alloc (.cells #[.int .i64 x.n, .int .i64 x.p, .slice A x.fs.length c] 151))).alloc (.cells #[.int .i64 x.n, .int .i64 x.p, .slice B x.fs.length d] 151)) (show (w.alloc (.cells #[.int .i64 x.n, .int .i64 x.p, .slice A x.fs.length c] 151)).cell? ⟨w.heap.size, 0, none⟩ = some (.int .i64 x.n) from cell_new _ _ _ _) id
  have q1 := Chg.cell ((Chg.refl Nowhere (w.alloc (.cells #[.int .i64 x.n, .int .i64 x.p, .slice A x.fs.length c] 151))).alloc (.cells #[.int .i64 x.n, .int .i64 x.p, .slice B x.fs.length d] 151)) (show (w.alloc (.cells #[.int .i64 x.n, .int .i64 x.p, .slice A x.fs.length c] 151)).cell? ⟨w.heap.size, 1, none⟩ = some (.int .i64 x.p) from cell_new _ _ _ _) id
  have q2 := Chg.cell ((Chg.refl Nowhere (w.alloc (.cells #[.int .i64 x.n, .int .i64 x.p, .slice A x.fs.length c] 151))).alloc (.cells #[.int .i64 x.n, .int .i64 x.p, .slice B x.fs.length d] 151)) (show (w.alloc (.cells #[.int .i64 x.n, .int .i64 x.p, .slice A x.fs.length c] 151)).cell? ⟨w.heap.size, 2, none⟩ = some (.slice A x.fs.length c) from cell_new _ _ _ _) id
  have p0 := (show ((w.alloc (.cells #[.int .i64 x.n, .int .i64 x.p, .slice A x.fs.length c] 151)).alloc (.cells #[.int .i64 x.n, .int .i64 x.p, .slice B x.fs.length d] 151)).cell? ⟨w.heap.size + 1, 0, none⟩ = some (.int .i64 x.n) from (cellF_at (by simp) rfl).1)
  have p1 := (show ((w.alloc (.cells #[.int .i64 x.n, .int .i64 x.p, .slice A x.fs.length c] 151)).alloc (.cells #[.int .i64 x.n, .int .i64 x.p, .slice B x.fs.length d] 151)).cell? ⟨w.heap.size + 1, 1, none⟩ = some (.int .i64 x.p) from (cellF_at (by simp) rfl).1)
  have p2 := (show ((w.alloc (.cells #[.int .i64 x.n, .int .i64 x.p, .slice A x.fs.length c] 151)).alloc (.cells #[.int .i64 x.n, .int .i64 x.p, .slice B x.fs.length d] 151)).cell? ⟨w.heap.size + 1, 2, none⟩ = some (.slice B x.fs.length d) from (cellF_at (by simp) rfl).1)
  go_enter Try.func156, Try.ntmps156
  go_wp2_with fail
  refine (eqIntSSV_same _ M H L M' H' L' _ _ x.fs (H0.out.up (by repeat (first | exact Chg.refl _ _ | apply Chg.drew | apply Chg.drewN | refine Chg.alloc ?_ _))) (G0.out.up (by repeat (first | exact Chg.refl _ _ | apply Chg.drew | apply Chg.drewN | refine Chg.alloc ?_ _)))).mono ?_
  rintro e w1 ⟨rfl, g1⟩
  have GX := Lib.hid (Chg.trans (by repeat (first | exact Chg.refl _ _ | apply Chg.drew | apply Chg.drewN | refine Chg.alloc ?_ _)) g1)
  clear g1
  have U1 := Lib.hid (Chg.trans U0.out GX.out)
  clear U0
  have q0 := Chg.cell GX.out q0 id
  have p0 := Chg.cell GX.out p0 id
  have q1 := Chg.cell GX.out q1 id
  have p1 := Chg.cell GX.out p1 id
  have q2 := Chg.cell GX.out q2 id
  have p2 := Chg.cell GX.out p2 id
  clear GX
  go_wp2
  go_ret
  exact ⟨rfl, Chg.trans U1.out (by repeat (first | exact Chg.refl _ _ | apply Chg.drew | apply Chg.drewN | refine Chg.alloc ?_ _))⟩
theorem infoNormSV : (Try.prog.info? 151).map (fun i => (i.zero, i.size, i.bytes)) = some (some (.agg #[.int .i64 0, .int .i64 0, .slice none 0 0]), 3, 40) := by kernel_rfl
theorem eqNormSV_same (w : World) (M H L M' H' L' : Nat → Prop) (v u : Value) (xs : List (NormM)) (h : NormSV w M H L v xs) (h2 : NormSV w M' H' L' u xs) :
    Calls Try.prog 97 #[v, u] w fun e w' => e = .returned (.bool true) ∧ Up w w' := by
  obtain ⟨A, c, rfl, hlc, hcm, -⟩ := h.shape
  obtain ⟨A2, c2, rfl, hlc2, hcm2, -⟩ := h2.shape
  have H := Lib.hid h
  have H2 := Lib.hid h2
  clear h h2
  go_enter Try.func97, Try.ntmps97
  go_wp2
  go_loopw [5] (fun i wr => ∃ (j : Nat), j ≤ xs.length ∧ i = .int .i64 j ∧ Hid (Up w wr)) (fun i _ => xs.length - (intOf i).toNat)
  case atStart => exact ⟨0, by omega, rfl, Chg.refl _ _⟩
  case round =>
    obtain ⟨j, hj, rfl, hu⟩ := hrel
    by_cases hlt : j < xs.length
    · obtain ⟨b3, o3, c3', vs3, he3, -, -, -, hE3, hc3⟩ := (H.out.up hu.out).at_ hlt
      obtain ⟨rfl, rfl⟩ : A = some ⟨b3, o3, none⟩ ∧ c = c3' := by simpa using he3
      obtain ⟨A3, k3, rfl, hv3⟩ := NormE.val hE3
      have f0 := (hc3 0 _ rfl).1
      have f1 := (hc3 1 _ rfl).1
      have f2 := (hc3 2 _ rfl).1
      rw [Nat.add_zero] at f0
      have HV3 := Lib.hid hv3
      clear hc3 hv3 he3
      obtain ⟨b5, o5, c5', vs5, he5, -, -, -, hE5, hc5⟩ := (H2.out.up hu.out).at_ hlt
      obtain ⟨rfl, rfl⟩ : A2 = some ⟨b5, o5, none⟩ ∧ c2 = c5' := by simpa using he5
      obtain ⟨A5, k5, rfl, hv5⟩ := NormE.val hE5
      have e0 := (hc5 0 _ rfl).1
      have e1 := (hc5 1 _ rfl).1
      have e2 := (hc5 2 _ rfl).1
      rw [Nat.add_zero] at e0
      have HV5 := Lib.hid hv5
      clear hc5 hv5 he5
      go_wp2
      have qf0 := up_cell f0
      have qf1 := up_cell f1
      have qf2 := up_cell f2
      have qe0 := up_cell e0
      have qe1 := up_cell e1
      have qe2 := up_cell e2
      clear f0 f1 f2 e0 e1 e2
      refine wp_region_up (by kernel_rfl) (by kernel_rfl) ?_
      repeat (go_big_quiet_step (first | (go_at_call 156; with_reducible exact calls_up (eqNorm_same _ _ _ _ _ _ _ _ _ _ (HV3.out.up (UpOf.up _)) (HV5.out.up (UpOf.up _))))))
      refine wpQuiet_nil ?_
      rintro _ ⟨u, rfl⟩
      go_wp2
      go_roundw
      case rel => exact ⟨j + 1, by omega, by go_num, Lib.hid (Chg.trans hu.out u.up)⟩
      case measure => first | (simp [intOf]; done) | (simp [intOf]; omega)
    · obtain rfl : j = xs.length := by omega
      go_wp2
      go_ret
      exact ⟨rfl, hu.out⟩
end Go.Proofs.Ytchfjglofmphfaa
end
namespace Go.Proofs.Ytchfjglofmphfaa
open Go.ChangeShapes Go.WideShapes Go.ChangeAt Go.RowKit
structure EvM where
  kind : Int
  place : Int
  count : Int
  bed : Int
  car : Int
  dir : Int
def EvM.cells (x : EvM) : List Value := [.int .i64 x.kind, .int .i64 x.place, .int .i64 x.count, .int .i64 x.bed, .int .i64 x.car, .int .i64 x.dir]
def EvM.ok (x : EvM) : Prop := I64 x.kind ∧ I64 x.place ∧ I64 x.count ∧ I64 x.bed ∧ I64 x.car ∧ I64 x.dir
theorem EvM.cells_length (x : EvM) : x.cells.length = 6 := rfl
abbrev EvM.val (x : EvM) : Value := .agg #[.int .i64 x.kind, .int .i64 x.place, .int .i64 x.count, .int .i64 x.bed, .int .i64 x.car, .int .i64 x.dir]
/-- a slice that reads as the list xs -/
def Evs (w : World) (S : Nat → Prop) (v : Value) (xs : List EvM) : Prop := Raw w S 6 v xs.length (xs.flatMap EvM.cells) ∧ ∀ x ∈ xs, x.ok
section
variable {S T : Nat → Prop} {w w' : World} {v : Value} {xs : List EvM}
theorem Evs.keep (h : Evs w S v xs) (g : Chg T w w') (hd : ∀ b, b < w.heap.size → S b → ¬ T b) : Evs w' S v xs := ⟨h.1.keep g hd, h.2⟩
theorem Evs.up (h : Evs w S v xs) (g : Up w w') : Evs w' S v xs := ⟨h.1.up g, h.2⟩
theorem Evs.alloc' (h : Evs w S v xs) (o : Obj) : Evs (w.alloc o) S v xs := h.up ((Chg.refl _ _).alloc o)
theorem Evs.mono (h : Evs w S v xs) (hs : ∀ b, b < w.heap.size → S b → T b) : Evs w T v xs := ⟨h.1.mono hs, h.2⟩
theorem Evs.shape (h : Evs w S v xs) : ∃ A c, v = .slice A xs.length c ∧ xs.length ≤ c ∧ c ≤ 9223372036854775807 ∧ (A = none → c = 0) := h.1.shape
theorem Evs.nil (w : World) (S : Nat → Prop) (c : Nat) (A : Option Addr) (hc : c ≤ 9223372036854775807) (hA : A = none → c = 0 := by simp) : Evs w S (.slice A 0 c) [] := ⟨Raw.nil w S 6 c A hc hA, by simp⟩
theorem Evs.at_ (h : Evs w S v xs) {i : Nat} (hi : i < xs.length) : ∃ b o c, v = .slice (some ⟨b, o, none⟩) xs.length c ∧ S b ∧ b < w.heap.size ∧
    ∀ j u, (xs[i].cells)[j]? = some u → w.cell? ⟨b, o + i * 6 + j, none⟩ = some u ∧ w.frozen? ⟨b, o + i * 6 + j, none⟩ = false := Raw.at_ EvM.cells_length h.1 hi
end
theorem eqEvent_same (w : World) (x : EvM) : Calls Try.prog 57 #[x.val, x.val] w fun e w' => e = .returned (.bool true) ∧ Up w w' := by
  go_enter Try.func57, Try.ntmps57
  go_wp2
  go_ret
  exact ⟨rfl, by repeat (first | exact Chg.refl _ _ | apply Chg.drew | apply Chg.drewN | refine Chg.alloc ?_ _)⟩
set_option maxRecDepth 100000 in
set_option maxHeartbeats 2000000 in
theorem eqEvs (w : World) (S T : Nat → Prop) (v u : Value) (xs : List EvM) (h : Evs w S v xs) (h2 : Evs w T u xs) :
    Calls Try.prog 11 #[v, u] w fun e w' => e = .returned (.bool true) ∧ Up w w' := by
  obtain ⟨A, c, rfl, hlc, hcm, -⟩ := h.shape
  obtain ⟨A2, c2, rfl, hlc2, hcm2, -⟩ := h2.shape
  have hz : ((xs.length : Int) != xs.length) = false := by simp
  have H := Lib.hid h
  have H2 := Lib.hid h2
  clear h h2
  go_enter Try.func11, Try.ntmps11
  go_wp2
  go_loopw [5] (fun i wr => ∃ j : Nat, j ≤ xs.length ∧ i = .int .i64 j ∧ Hid (Up w wr)) (fun i _ => xs.length - (intOf i).toNat)
  case atStart => exact ⟨0, by omega, rfl, Chg.refl _ _⟩
  case round =>
    obtain ⟨j, hj, rfl, hg⟩ := hrel
    by_cases hlt : j < xs.length
    · obtain ⟨b, o, c', he, -, -, hc⟩ := (H.out.up hg.out).at_ hlt
      obtain ⟨b2, o2, c2', he2, -, -, hc2⟩ := (H2.out.up hg.out).at_ hlt
      obtain ⟨rfl, rfl⟩ : A = some ⟨b, o, none⟩ ∧ c = c' := by simpa using he
      obtain ⟨rfl, rfl⟩ : A2 = some ⟨b2, o2, none⟩ ∧ c2 = c2' := by simpa using he2
      have f0 := (hc 0 _ rfl).1
      have f1 := (hc 1 _ rfl).1
      have f2 := (hc 2 _ rfl).1
      have f3 := (hc 3 _ rfl).1
      have f4 := (hc 4 _ rfl).1
      have f5 := (hc 5 _ rfl).1
      have g0 := (hc2 0 _ rfl).1
      have g1 := (hc2 1 _ rfl).1
      have g2 := (hc2 2 _ rfl).1
      have g3 := (hc2 3 _ rfl).1
      have g4 := (hc2 4 _ rfl).1
      have g5 := (hc2 5 _ rfl).1
      rw [Nat.add_zero] at f0 g0
      clear hc hc2 he he2
      go_wp2
      go_still_tail 8, (by kernel_rfl)
      go_wp2_with fail
      refine (eqEvent_same _ xs[j]).mono ?_
      rintro e w1 ⟨rfl, k1⟩
      have K1 := Lib.hid k1
      clear k1
      go_wp2
      go_roundw
      case rel => exact ⟨j + 1, by omega, by go_num, (hg.out.drew).trans K1.out⟩
      case measure => simp [intOf]; omega
    · go_wp2
      go_ret
      exact ⟨rfl, hg.out⟩
def MEvs (w : World) (S : Nat → Prop) (v : Value) (xs : List EvM) (k : Int) : Prop := Raw w S 6 v xs.length (markCells k (xs.length * 6))
theorem MEvs.keep {S T : Nat → Prop} {w w' : World} {v : Value} {xs : List EvM} {k : Int} (h : MEvs w S v xs k) (g : Chg T w w') (hd : ∀ b, b < w.heap.size → S b → ¬ T b) : MEvs w' S v xs k := Raw.keep h g hd
theorem MEvs.up {S : Nat → Prop} {w w' : World} {v : Value} {xs : List EvM} {k : Int} (h : MEvs w S v xs k) (g : Up w w') : MEvs w' S v xs k := Raw.up h g
def cntEvs (xs : List EvM) : Nat := xs.length * 6
set_option maxRecDepth 100000 in
set_option maxHeartbeats 2000000 in
theorem rawmarkEventS (w : World) (S : Nat → Prop) (v : Value) (n : Nat) (cs : List Value) (k : Int) (hk : 0 ≤ k) (hb : k + (n * 6 : Nat) ≤ 4611686018427387904)
    (h : Raw w S 6 v n cs) :
    Calls Try.prog 14 #[v, .int .i64 k] w fun e w' => e = .returned (.int .i64 (k + (n * 6 : Nat))) ∧ Chg S w w' ∧ Raw w' S 6 v n (markCells k (n * 6)) := by
  obtain ⟨hl, A, c, rfl, hlc, hcm, hr, hnn⟩ := h
  by_cases hz : 0 < n
  · obtain ⟨b, o, rfl, hS, hbl, hc⟩ := hr hz
    have Hc := Lib.hid hc
    have HS := Lib.hid hS
    have Hl := Lib.hid hl
    clear hr hc hS hl
    go_enter Try.func14, Try.ntmps14
    go_wp2
    go_loopw [1, 5] (fun q i wr => ∃ j : Nat, j ≤ n ∧ i = .int .i64 j ∧ q = .int .i64 (k + 6 * j) ∧ Hid (Chg S w wr) ∧ Hid (Marking wr b o 6 n j k)) (fun _ i _ => n - (intOf i).toNat)
    case atStart => exact ⟨0, by omega, rfl, by simp, Chg.refl _ _, Marking.start k Hl.out Hc.out⟩
    case round =>
      obtain ⟨j, hj, rfl, rfl, hg, hcs⟩ := hrel
      by_cases hlt : j < n
      · obtain ⟨x0, f0, q0⟩ := hcs.out.cell hlt 0 (by omega)
        obtain ⟨x1, f1, q1⟩ := hcs.out.cell hlt 1 (by omega)
        obtain ⟨x2, f2, q2⟩ := hcs.out.cell hlt 2 (by omega)
        obtain ⟨x3, f3, q3⟩ := hcs.out.cell hlt 3 (by omega)
        obtain ⟨x4, f4, q4⟩ := hcs.out.cell hlt 4 (by omega)
        obtain ⟨x5, f5, q5⟩ := hcs.out.cell hlt 5 (by omega)
        rw [Nat.add_zero] at f0 q0
        go_wp2
        go_roundw
        case rel =>
          clear f0 f1 f2 f3 f4 f5 q0 q1 q2 q3 q4 q5
          refine ⟨j + 1, by omega, by go_num, by simp only [Value.int.injEq, true_and]; omega, Chg.setCells HS.out [_, _, _, _, _, _] (o + j * 6) hg.out, Marking.next hcs.out hlt (vs := [_, _, _, _, _, _]) ?_⟩
          simp only [List.range, List.range.loop, List.map_cons, List.map_nil, List.cons.injEq, Value.int.injEq, true_and, and_true]
          omega
        case measure => simp [intOf]; omega
      · obtain rfl : j = n := by omega
        go_wp2
        go_ret
        exact ⟨ret_int (by omega), hg.out, Marking.done hcs.out HS.out (Nat.lt_of_lt_of_le hbl hg.out.size) hlc hcm⟩
  · obtain rfl : n = 0 := by omega
    clear hr hl
    go_enter Try.func14, Try.ntmps14
    go_wp2
    go_loop [1, 5] (fun q i => i = .int .i64 0 ∧ q = .int .i64 k) (fun _ _ => 0)
    case atStart => exact ⟨rfl, rfl⟩
    case round =>
      obtain ⟨rfl, rfl⟩ := hrel
      go_wp2
      go_ret
      exact ⟨by simp, Chg.refl _ _, Raw.nil _ _ _ _ _ hcm hnn⟩
theorem markEvs (w : World) (S : Nat → Prop) (v : Value) (xs : List EvM) (k : Int) (hk : 0 ≤ k) (hb : k + cntEvs xs ≤ 4611686018427387904) (h : Evs w S v xs) :
    Calls Try.prog 14 #[v, .int .i64 k] w fun e w' => e = .returned (.int .i64 (k + cntEvs xs)) ∧ Chg S w w' ∧ MEvs w' S v xs k :=
  rawmarkEventS w S v xs.length _ k hk hb h.1
set_option maxRecDepth 100000 in
set_option maxHeartbeats 2000000 in
theorem rawheldEventS (w : World) (S : Nat → Prop) (v : Value) (n : Nat) (k : Int) (hk : 0 ≤ k) (hb : k + (n * 6 : Nat) ≤ 4611686018427387904)
    (h : Raw w S 6 v n (markCells k (n * 6))) :
    Calls Try.prog 15 #[v, .int .i64 k] w fun e w' => e = .returned (.int .i64 (k + (n * 6 : Nat))) ∧ w = w' := by
  obtain ⟨A, c, rfl, hlc, hcm, -⟩ := h.shape
  have H := Lib.hid h
  clear h
  go_enter Try.func15, Try.ntmps15
  go_wp2
  go_loop [1, 5] (fun q i => ∃ j : Nat, j ≤ n ∧ i = .int .i64 j ∧ q = .int .i64 (k + 6 * j)) (fun _ i => n - (intOf i).toNat)
  case atStart => exact ⟨0, by omega, rfl, by simp⟩
  case round =>
    obtain ⟨j, hj, rfl, rfl⟩ := hrel
    by_cases hlt : j < n
    · obtain ⟨b, o, c', he, hc⟩ := H.out.mark hlt
      obtain ⟨rfl, rfl⟩ : A = some ⟨b, o, none⟩ ∧ c = c' := by simpa using he
      have f0 := hc 0 (by omega) (k + 6 * j) (by omega)
      have f1 := hc 1 (by omega) (k + 6 * j + 1) (by omega)
      have f2 := hc 2 (by omega) (k + 6 * j + 1 + 1) (by omega)
      have f3 := hc 3 (by omega) (k + 6 * j + 1 + 1 + 1) (by omega)
      have f4 := hc 4 (by omega) (k + 6 * j + 1 + 1 + 1 + 1) (by omega)
      have f5 := hc 5 (by omega) (k + 6 * j + 1 + 1 + 1 + 1 + 1) (by omega)
      rw [Nat.add_zero] at f0
      clear hc he
      go_wp2
      go_round
      case rel => exact ⟨j + 1, by omega, by go_num, by simp only [Value.int.injEq, true_and]; omega⟩
      case measure => simp [intOf]; omega
    · obtain rfl : j = n := by omega
      go_wp2
      go_ret
      exact ⟨ret_int (by omega), rfl⟩
theorem heldEvs (w : World) (S : Nat → Prop) (v : Value) (xs : List EvM) (k : Int) (hk : 0 ≤ k) (hb : k + cntEvs xs ≤ 4611686018427387904) (h : MEvs w S v xs k) :
    Calls Try.prog 15 #[v, .int .i64 k] w fun e w' => e = .returned (.int .i64 (k + cntEvs xs)) ∧ Up w w' :=
  (rawheldEventS w S v xs.length k hk hb h).mono fun _ _ ⟨he, hw⟩ => ⟨he, hw ▸ Chg.refl _ _⟩
/-- a slice of the call's own, from block base on -/
def OwnEvs (w : World) (base : Nat) (v : Value) (xs : List EvM) : Prop :=
  w.ownsRow base 114 6 v xs.length (xs.flatMap EvM.cells) ∧ ∀ x ∈ xs, x.ok
theorem OwnEvs.nil (w : World) (base : Nat) : OwnEvs w base (.slice none 0 0) [] := ⟨World.ownsRow_nil _ _ _ _, by simp⟩
theorem OwnEvs.made (w : World) (base : Nat) (hb : base ≤ w.heap.size) : OwnEvs (w.alloc (.cells #[] 114)) base (.slice (some ⟨w.heap.size, 0, none⟩) 0 0) [] :=
  ⟨World.ownsRow_made w _ 0 hb (by unfold Go.maxLen; omega) (by simp), by simp⟩
theorem OwnEvs.alloc {w : World} {base : Nat} {v : Value} {xs : List EvM} (h : OwnEvs w base v xs) (o : Obj) : OwnEvs (w.alloc o) base v xs := ⟨h.1.alloc o, h.2⟩
theorem OwnEvs.kept {w w' : World} {base : Nat} {v : Value} {xs : List EvM} {S : Nat → Prop} (h : OwnEvs w base v xs) (k : Chg S w w') (hS : ∀ g, v.ownBlock = some g → ¬ S g) : OwnEvs w' base v xs := by
  refine ⟨⟨h.1.1, ?_⟩, h.2⟩
  rcases h.1.2 with h2 | ⟨g, cap, cur, rfl, hg, hh, r⟩
  · exact Or.inl h2
  · exact Or.inr ⟨g, cap, cur, rfl, hg, (k.block g (Array.getElem?_eq_some_iff.1 hh).1 (hS g rfl)).trans hh, r⟩
theorem OwnEvs.up {w w' : World} {base : Nat} {v : Value} {xs : List EvM} (h : OwnEvs w base v xs) (k : Up w w') : OwnEvs w' base v xs := h.kept k fun _ _ h => h
theorem OwnEvs.rd {w : World} {base : Nat} {v : Value} {xs : List EvM} (h : OwnEvs w base v xs) : Evs w (New base w.heap.size) v xs := ⟨Raw.of_own h.1, h.2⟩
theorem OwnEvs.lt {w : World} {base : Nat} {v : Value} {xs : List EvM} (h : OwnEvs w base v xs) {g : Nat} (hg : v.ownBlock = some g) : base ≤ g ∧ g < w.heap.size := h.1.lt g hg
theorem infoEvs : (Try.prog.info? 114).map (fun i => (i.zero, i.size, i.bytes)) = some (some (EvM.mk 0 0 0 0 0 0).val, 6, 48) := by kernel_rfl
theorem cells_oneEvs (x : EvM) : ∀ u ∈ x.cells, u.oneCell' = true := by
  intro u hu
  simp only [EvM.cells, List.mem_cons, List.not_mem_nil, or_false] at hu
  rcases hu with rfl | rfl | rfl | rfl | rfl | rfl <;> rfl
set_option maxRecDepth 100000 in
theorem wp_appendEvs {w : World} {ops : Array Oper} {rest : List Oper} {o : Oper} {a : Act} {Q : Exit → Act → World → Prop} (hgd : o.guard = none) (s x : Operand)
    (ho : o.op = .call { callee := .builtin .append, args := #[s, x], argTypes := #[29, 29] })
    (base : Nat) (v : Value) (xs : List EvM) (hs : a.eval s = v) (hown : OwnEvs w base v xs)
    (S : Nat → Prop) (u : Value) (ys : List EvM) (hx : a.eval x = u) (hsrc : Evs w S u ys) (hlen : xs.length + ys.length ≤ 1099511627776) (hbase : base ≤ w.heap.size)
    (h : ∀ v' w', OwnEvs w' base v' (xs ++ ys) → w.grownBy w' v.ownBlock → Chg (fun k => base ≤ k) w w' → wpList Try.prog ops Q rest (a.put o.dst v') w') : wpList Try.prog ops Q (o :: rest) a w := by
  obtain ⟨i0, hi, hz0, hz1, hz2⟩ := info_parts infoEvs
  obtain ⟨⟨hl, A, c, rfl, hlc, hcm, hr, hnn⟩, hok⟩ := hsrc
  have hok' : ∀ y ∈ xs ++ ys, y.ok := fun y hy => (List.mem_append.1 hy).elim (hown.2 y) (hok y)
  cases A with
  | none =>
    have hy : ys = [] := by
      rcases Nat.eq_zero_or_pos ys.length with h0 | h0
      · exact List.eq_nil_of_length_eq_zero h0
      · obtain ⟨b, oo, h1, _⟩ := hr h0
        cases h1
    subst hy
    obtain rfl := hnn rfl
    refine wpList_append_own_none hgd s x 29 ho base 114 i0 6 Try.underlying29 hi v xs.length _ hs hown.1 hx ?_
    exact h v w (by simpa using hown) (World.grownBy.refl w _) (Chg.refl _ _)
  | some ad =>
    have hnews : ∀ j q, (ys.flatMap EvM.cells)[j]? = some q → w.cell? (ad.add j) = some q := by
      intro j q hq
      obtain ⟨hj, he⟩ := List.getElem?_eq_some_iff.1 hq
      have hp : 0 < ys.length := by
        rcases Nat.eq_zero_or_pos ys.length with h0 | h0
        · rw [List.eq_nil_of_length_eq_zero h0] at hj; simp at hj
        · exact h0
      obtain ⟨b, oo, h1, _, _, hc⟩ := hr hp
      injection h1 with h1
      subst h1
      have := (hc j hj).1
      rw [he] at this
      rw [← this]
      unfold Addr.add
      by_cases h0 : j = 0 <;> simp [h0]
    refine wpList_append_own (P := Try.prog) w hgd s x 29 ho base 114 i0 _ 6 48 Try.underlying29 hi hz0 hz1 hz2 rfl (by decide) v xs.length _ hs hown.1 ad ys.length c (ys.flatMap EvM.cells) hx hl hnews ?_ ?_ ?_ hbase ?_
    · intro q hq
      obtain ⟨y, _, hy⟩ := List.mem_flatMap.1 hq
      exact cells_oneEvs y q hy
    · unfold Go.maxLen; omega
    · omega
    · intro v' w' h2 h3 _
      exact h v' w' ⟨by simpa using h2, hok'⟩ h3 ((Chg.refl _ _).grown h3 fun k hk => .inl (hown.1.lt k hk).1)
set_option maxRecDepth 100000 in
/-- the same at a step of a region that draws its order -/
theorem step_appendEvs {w : World} {ops : Array Oper} {o : Oper} {a : Act} {K : Act → World → Prop} {Q : Exit → Act → World → Prop} {E : Prop} (hgd : o.guard = none) (s x : Operand)
    (ho : o.op = .call { callee := .builtin .append, args := #[s, x], argTypes := #[29, 29] })
    (base : Nat) (v : Value) (xs : List EvM) (hs : a.eval s = v) (hown : OwnEvs w base v xs)
    (S : Nat → Prop) (u : Value) (ys : List EvM) (hx : a.eval x = u) (hsrc : Evs w S u ys) (hlen : xs.length + ys.length ≤ 1099511627776) (hbase : base ≤ w.heap.size)
    (h : ∀ v' w', OwnEvs w' base v' (xs ++ ys) → w.grownBy w' v.ownBlock → Chg (fun k => base ≤ k) w w' → K (a.put o.dst v') w') :
    if Region.wanted o (yielded ops a.tmps) = true then Oper.wp Try.prog o a w K Q else E := by
  have hw : Region.wanted o (yielded ops a.tmps) = true := by simp [Region.wanted, hgd]
  rw [if_pos hw]
  obtain ⟨i0, hi, hz0, hz1, hz2⟩ := info_parts infoEvs
  obtain ⟨⟨hl, A, c, rfl, hlc, hcm, hr, hnn⟩, hok⟩ := hsrc
  have hok' : ∀ y ∈ xs ++ ys, y.ok := fun y hy => (List.mem_append.1 hy).elim (hown.2 y) (hok y)
  cases A with
  | none =>
    have hy : ys = [] := by
      rcases Nat.eq_zero_or_pos ys.length with h0 | h0
      · exact List.eq_nil_of_length_eq_zero h0
      · obtain ⟨b, oo, h1, _⟩ := hr h0
        cases h1
    subst hy
    obtain rfl := hnn rfl
    have hrun := run_append_owned_none (P := Try.prog) (w := w) base 29 o.type 114 i0 6 Try.underlying29 hi v xs.length _ hown.1
    have hK := h v w (by simpa using hown) (World.grownBy.refl w _) (Chg.refl _ _)
    unfold Oper.wp
    simp [execOp, ho, resolve, invoke, builtin, hs, hx, hrun, Result.andThen]
    exact hK
  | some ad =>
    have hnews : ∀ j q, (ys.flatMap EvM.cells)[j]? = some q → w.cell? (ad.add j) = some q := by
      intro j q hq
      obtain ⟨hj, he⟩ := List.getElem?_eq_some_iff.1 hq
      have hp : 0 < ys.length := by
        rcases Nat.eq_zero_or_pos ys.length with h0 | h0
        · rw [List.eq_nil_of_length_eq_zero h0] at hj; simp at hj
        · exact h0
      obtain ⟨b, oo, h1, _, _, hc⟩ := hr hp
      injection h1 with h1
      subst h1
      have := (hc j hj).1
      rw [he] at this
      rw [← this]
      unfold Addr.add
      by_cases h0 : j = 0 <;> simp [h0]
    refine wp_append_own (P := Try.prog) w s x 29 ho base 114 i0 _ 6 48 Try.underlying29 hi hz0 hz1 hz2 rfl (by decide) v xs.length _ hs hown.1 ad ys.length c (ys.flatMap EvM.cells) hx hl hnews ?_ ?_ ?_ hbase ?_
    · intro q hq
      obtain ⟨y, _, hy⟩ := List.mem_flatMap.1 hq
      exact cells_oneEvs y q hy
    · unfold Go.maxLen; omega
    · omega
    · intro v' w' h2 h3 _
      exact h v' w' ⟨by simpa using h2, hok'⟩ h3 ((Chg.refl _ _).grown h3 fun k hk => .inl (hown.1.lt k hk).1)
theorem wp_append1Evs {w : World} {ops : Array Oper} {rest : List Oper} {o : Oper} {a : Act} {Q : Exit → Act → World → Prop} (hgd : o.guard = none) (s x : Operand)
    (ho : o.op = .call { callee := .builtin .append, args := #[s, x], argTypes := #[29, 29] })
    (base : Nat) (v : Value) (xs : List EvM) (hs : a.eval s = v) (hown : OwnEvs w base v xs)
    (g : Nat) (y : EvM) (hx : a.eval x = .slice (some ⟨g, 0, none⟩) 1 1) (hh : w.heap[g]? = some (.cells y.cells.toArray 114 (0, 0))) (hy : y.ok) (hlen : xs.length ≤ 1099511627775) (hbase : base ≤ w.heap.size)
    (h : ∀ v' w', OwnEvs w' base v' (xs ++ [y]) → w.grownBy w' v.ownBlock → Chg (fun k => base ≤ k) w w' → wpList Try.prog ops Q rest (a.put o.dst v') w') : wpList Try.prog ops Q (o :: rest) a w :=
  wp_appendEvs hgd s x ho base v xs hs hown (fun _ => True) _ [y] hx ⟨Raw.of_block hh (by simp) trivial rfl (by simp) (by omega), by simpa using hy⟩ (by simp; omega) hbase h
end Go.Proofs.Ytchfjglofmphfaa
namespace Go.Proofs.Ytchfjglofmphfaa
open Go.ChangeShapes Go.WideShapes Go.ChangeAt Go.RowKit
theorem szEvs_ok (w : World) (S : Nat → Prop) (v : Value) (xs : List EvM) (k : Int) (hk : 0 ≤ k ∧ k ≤ 1048576) (hl : (xs.length : Int) ≤ k) (h : Evs w S v xs) :
    Calls Try.prog 35 #[v, .int .i64 k] w fun e w' => e = .returned (.int .i64 (k - xs.length)) ∧ w = w' := by
  obtain ⟨A, c, rfl, hlc, hcm, -⟩ := h.shape
  clear h
  have hd : decide (k - (xs.length : Int) < 0) = false := decide_eq_false (by omega)
  go_enter Try.func35, Try.ntmps35
  go_wp2
  go_ret
  exact ⟨rfl, rfl⟩
theorem szEvs_no (w : World) (S : Nat → Prop) (v : Value) (xs : List EvM) (k : Int) (hk : 0 ≤ k ∧ k ≤ 1048576) (hl : k < (xs.length : Int)) (h : Evs w S v xs) :
    Calls Try.prog 35 #[v, .int .i64 k] w fun e w' => e = .returned (.int .i64 (-1)) ∧ w = w' := by
  obtain ⟨A, c, rfl, hlc, hcm, -⟩ := h.shape
  clear h
  have hd : decide (k - (xs.length : Int) < 0) = true := decide_eq_true (by omega)
  go_enter Try.func35, Try.ntmps35
  go_wp2
  go_ret
  exact ⟨rfl, rfl⟩
theorem toEvent_any (w : World) (x : EvM) :
    Calls Try.prog 94 #[x.val] w fun e w' => e = .returned x.val ∧ Up w w' := by
  go_enter Try.func94, Try.ntmps94
  go_wp2
  exact bodyPost_ret (v := x.val) (by simp [results, Try.results94, go_sem]) rfl ⟨rfl, by repeat (first | exact Chg.refl _ _ | refine Chg.alloc ?_ _)⟩
set_option maxRecDepth 100000 in
set_option maxHeartbeats 4000000 in
theorem toEvs (w : World) (S : Nat → Prop) (v : Value) (xs : List EvM) (hb : cntEvs xs ≤ 8388608) (h : Evs w S v xs) :
    Calls Try.prog 37 #[v] w fun e w' => ∃ u, e = .returned u ∧ Evs w' (New w.heap.size w'.heap.size) u xs ∧ Up w w' := by
  unfold cntEvs at hb
  obtain ⟨A, c, rfl, hlc, hcm, -⟩ := h.shape
  have H := Lib.hid h
  clear h
  obtain ⟨i0, hi, hz0, hz1, hz2⟩ := info_parts infoEvs
  have hmk : ∀ u : World, (Instr.makeSlice 29 (.int .i64 (xs.length : Int)) (.int .i64 (xs.length : Int))).run Try.prog u =
      .ok (.slice (some ⟨u.heap.size, 0, none⟩) xs.length xs.length) (u.alloc (.cells (madeCells (EvM.mk 0 0 0 0 0 0).cells.toArray (xs.length * 6)) 114)) := fun u => by
    have h := run_make (P := Try.prog) u 29 114 i0 (EvM.mk 0 0 0 0 0 0).val Try.underlying29 hi hz0 .i64 .i64 (xs.length : Int) (xs.length : Int) (by omega) (Int.le_refl _) (by rw [hz2]; omega) (by omega)
    simpa [hz1, Value.cells, EvM.cells] using h
  go_enter Try.func37, Try.ntmps37
  go_wp2
  have Hi := Lib.hid hmk
  clear hmk hi hz0 hz1 hz2
  go_loopw [4] (fun i wr => ∃ j : Nat, j ≤ xs.length ∧ i = .int .i64 j ∧ Hid (Up w wr) ∧ w.heap.size < wr.heap.size ∧
      Hid (Copying wr w.heap.size 6 xs.length j (xs.flatMap EvM.cells))) (fun i _ => xs.length - (intOf i).toNat)
  case atStart => exact ⟨0, by omega, rfl, (Chg.refl _ _).alloc _, by simp, Copying.start _ _ _ _ _ _ (by simp [size_madeCells])⟩
  case round =>
    obtain ⟨j, hj, rfl, hg, hsz, hcs⟩ := hrel
    by_cases hlt : j < xs.length
    · obtain ⟨b, o, c', he, -, hbl, hc⟩ := (H.out.up hg.out).at_ hlt
      obtain ⟨rfl, rfl⟩ : A = some ⟨b, o, none⟩ ∧ c = c' := by simpa using he
      have f0 := (hc 0 _ rfl).1
      have f1 := (hc 1 _ rfl).1
      have f2 := (hc 2 _ rfl).1
      have f3 := (hc 3 _ rfl).1
      have f4 := (hc 4 _ rfl).1
      have f5 := (hc 5 _ rfl).1
      rw [Nat.add_zero] at f0
      clear hc he
      go_wp2_with fail
      refine (toEvent_any _ xs[j]).mono ?_
      rintro e w2 ⟨rfl, g2⟩
      have hcs := Lib.hid (Copying.up hcs.out g2)
      have hg := Lib.hid (Chg.trans hg.out g2)
      have hsz := Nat.lt_of_lt_of_le hsz g2.size
      clear g2
      obtain ⟨u0, c0, q0⟩ := hcs.out.cell hlt 0 (by omega)
      obtain ⟨u1, c1, q1⟩ := hcs.out.cell hlt 1 (by omega)
      obtain ⟨u2, c2, q2⟩ := hcs.out.cell hlt 2 (by omega)
      obtain ⟨u3, c3, q3⟩ := hcs.out.cell hlt 3 (by omega)
      obtain ⟨u4, c4, q4⟩ := hcs.out.cell hlt 4 (by omega)
      obtain ⟨u5, c5, q5⟩ := hcs.out.cell hlt 5 (by omega)
      rw [Nat.add_zero] at c0 q0
      go_wp2
      go_roundw
      case rel =>
        refine ⟨j + 1, by omega, by go_num, Chg.setCellsNew (Nat.le_refl _) xs[j].cells (j * 6) hg.out, ?_, Copying.next hcs.out hlt (vs := xs[j].cells) rfl (fun i hi => ?_)⟩
        · simpa [World.setCell] using hsz
        · rw [flat_get EvM.cells 6 EvM.cells_length xs j hlt i hi]
          exact List.getElem?_eq_getElem hi
      case measure => simp [intOf]; omega
    · obtain rfl : j = xs.length := by omega
      go_wp2
      go_ret
      exact ⟨_, rfl, ⟨Copying.done hcs.out ⟨Nat.le_refl _, hsz⟩ hsz (flat_length EvM.cells 6 EvM.cells_length xs) (by omega), H.out.2⟩, hg.out⟩
end Go.Proofs.Ytchfjglofmphfaa
