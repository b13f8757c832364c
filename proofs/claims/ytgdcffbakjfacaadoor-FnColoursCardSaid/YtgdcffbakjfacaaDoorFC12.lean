/- Colour charts as plain data: floats, stitches, rows, the chart. No condition. Regions that draw their order, whose operations only read and whose callees at most make new memory: one walk serves every order. No condition. Slices whose elements take m cells each and bear a reading of their own: nested slices, slices of structs with slices. No condition. The laws' helpers on nested slices. No condition. The laws' helpers on nested slices. No condition. Events as data: slices of them; the laws' own helpers on them: equal, marked, held. No condition but room for the numbers. The laws' own copies of slices of events, and their sizes. No condition but room. -/
import Derived.Test.YtgdcffbakjfacaaDoorFC11
import Derived.Test.YtgdcffbakjfacaaDoorFC2
import Derived.Test.YtgdcffbakjfacaaDoorFC9
import Derived.Test.YtgdcffbakjfacaaDoorFC6
import Derived.StillTailTactics
import Derived.Laws.AppendOwnNone
section
set_option linter.unusedVariables false
namespace Go.Proofs.YtgdcffbakjfacaaDoor
structure ColM where
  n : Int
  rs : List (List Int)
/-- one element more of a row is looked at -/
def floStep (num k : Int) (j : Nat) (x : Int) (s : List FloM × Int) : List FloM × Int :=
  if x = k then (if 0 ≤ s.2 ∧ s.2 + 1 < (j : Int) then s.1 ++ [⟨num, k, s.2, j⟩] else s.1, (j : Int)) else s
def floTo (row : List Int) (num k : Int) : Nat → List FloM × Int
  | 0 => ([], -1)
  | j + 1 => floStep num k j (row.getD j 0) (floTo row num k j)
def floL (row : List Int) (num k : Int) : List FloM := (floTo row num k row.length).1
def rowFl (row : List Int) (num : Int) : Nat → List FloM
  | 0 => []
  | k + 1 => rowFl row num k ++ floL row num ((k : Int) + 1)
def colAt (rows : List (List Int)) (i : Nat) : List Int := rows.getD i []
def allFl (rows : List (List Int)) : Nat → List FloM
  | 0 => []
  | i + 1 => allFl rows i ++ rowFl (colAt rows i) i 4
theorem colAt_eq {rows : List (List Int)} {i : Nat} (h : i < rows.length) : colAt rows i = rows[i] := by unfold colAt; simp [h]
/-- tucks at a, a + step .. below a place -/
def tuckW (out : List Int) (a step til : Int) : Nat → List Int
  | 0 => out
  | n + 1 => if a < til then tuckW (out.set a.toNat 6) (a + step) step til n else out
theorem tuckW_end (out : List Int) {a step til : Int} (h : ¬ a < til) : ∀ n, tuckW out a step til n = out
  | 0 => rfl
  | n + 1 => by unfold tuckW; rw [if_neg h]
theorem tuckW_step (out : List Int) {a step til : Int} (h : a < til) (n : Nat) : tuckW out a step til (n + 1) = tuckW (out.set a.toNat 6) (a + step) step til n := by
  rw [tuckW, if_pos h]
theorem tuckW_length (step til : Int) : ∀ (n : Nat) (out : List Int) (a : Int), (tuckW out a step til n).length = out.length
  | 0, _, _ => rfl
  | n + 1, out, a => by
    unfold tuckW
    split
    · rw [tuckW_length step til n, List.length_set]
    · rfl
def tuckF (most : Int) (out : List Int) (f : FloM) : List Int := tuckW out (f.fr + most + 1) (most + 1) f.til f.til.toNat
theorem tuckF_length (most : Int) (out : List Int) (f : FloM) : (tuckF most out f).length = out.length := tuckW_length _ _ _ _ _
theorem tuckFs_length (most : Int) : ∀ (fs : List FloM) (out : List Int), (fs.foldl (tuckF most) out).length = out.length
  | [], _ => rfl
  | f :: fs, out => by rw [List.foldl_cons, tuckFs_length most fs, tuckF_length]
def baseSt (row : List Int) (k : Int) : List Int := row.map fun x => if x = k then 1 else 7
def stitM (row : List Int) (k most : Int) : List Int := if 0 < most then (floL row 0 k).foldl (tuckF most) (baseSt row k) else baseSt row k
theorem stitM_length (row : List Int) (k most : Int) : (stitM row k most).length = row.length := by
  unfold stitM
  split
  · rw [tuckFs_length, baseSt, List.length_map]
  · rw [baseSt, List.length_map]
structure ColS where
  rs : List RowM
  ds : List Int
def dirOf (s : ColS) (k : Nat) : Int := if s.ds.getD k 0 ≠ 0 then -(s.ds.getD k 0) else if s.rs.length = 0 then -1 else 1
def colK (most : Int) (row : List Int) (s : ColS) (k : Nat) : ColS :=
  if ((k : Int) + 1) ∈ row then ⟨s.rs ++ [⟨dirOf s k, (k : Int) + 1, stitM row ((k : Int) + 1) most⟩], s.ds.set k (dirOf s k)⟩ else s
def colRow (most : Int) (row : List Int) (s : ColS) : Nat → ColS
  | 0 => s
  | k + 1 => colK most row (colRow most row s k) k
def colTo (most : Int) (rows : List (List Int)) : Nat → ColS
  | 0 => ⟨[], [0, 0, 0, 0]⟩
  | i + 1 => colRow most (colAt rows i) (colTo most rows i) 4
/-- the directions are those of four carriers, none, right or left -/
def DsOk (s : ColS) (m : Nat) : Prop := s.ds.length = 4 ∧ (∀ k, k < 4 → -1 ≤ s.ds.getD k 0 ∧ s.ds.getD k 0 ≤ 1) ∧ s.rs.length ≤ m
theorem dirOf_bd {s : ColS} {m : Nat} (h : DsOk s m) {k : Nat} (hk : k < 4) : dirOf s k = 1 ∨ dirOf s k = -1 := by
  have := h.2.1 k hk
  unfold dirOf
  split
  · omega
  · split <;> simp
theorem colK_ok {most : Int} {row : List Int} {s : ColS} {m k : Nat} (h : DsOk s m) (hk : k < 4) : DsOk (colK most row s k) (m + 1) := by
  unfold colK
  split
  · refine ⟨by rw [List.length_set]; exact h.1, fun i hi => ?_, by simp only [List.length_append, List.length_cons, List.length_nil]; have := h.2.2; omega⟩
    have h1 := dirOf_bd h hk
    have h2 := h.2.1 i hi
    by_cases he : k = i
    · subst he
      have : (s.ds.set k (dirOf s k)).getD k 0 = dirOf s k := by simp [List.getD_eq_getElem?_getD, h.1, hk]
      simp only []
      rw [this]
      omega
    · have : (s.ds.set k (dirOf s k)).getD i 0 = s.ds.getD i 0 := by simp [List.getD_eq_getElem?_getD, List.getElem?_set_ne he]
      simp only []
      rw [this]
      exact h2
  · exact ⟨h.1, h.2.1, Nat.le_succ_of_le h.2.2⟩
theorem colRow_ok {most : Int} {row : List Int} {s : ColS} {m : Nat} (h : DsOk s m) : ∀ k, k ≤ 4 → DsOk (colRow most row s k) (m + k)
  | 0, _ => h
  | k + 1, hk => colK_ok (colRow_ok h k (by omega)) (by omega)
theorem colTo_ok (most : Int) (rows : List (List Int)) : ∀ i, DsOk (colTo most rows i) (4 * i)
  | 0 => ⟨rfl, fun k hk => by
      match k, hk with
      | 0, _ => simp [colTo]
      | 1, _ => simp [colTo]
      | 2, _ => simp [colTo]
      | 3, _ => simp [colTo], Nat.zero_le _⟩
  | i + 1 => colRow_ok (colTo_ok most rows i) 4 (Nat.le_refl _)
theorem colRow_rs_len {most : Int} {row : List Int} {s : ColS} {L : Nat} (hl : row.length = L) (h : ∀ r ∈ s.rs, r.xs.length = L) : ∀ k, ∀ r ∈ (colRow most row s k).rs, r.xs.length = L
  | 0 => h
  | k + 1 => by
    intro r hr
    unfold colRow colK at hr
    split at hr
    · rcases List.mem_append.1 hr with hr | hr
      · exact colRow_rs_len hl h k r hr
      · obtain rfl : r = _ := by simpa using hr
        rw [stitM_length, hl]
    · exact colRow_rs_len hl h k r hr
/-- what floats are: their row and carrier, and where they lie -/
def FloOk (num k L : Int) (f : FloM) : Prop := f.row = num ∧ f.car = k ∧ 0 ≤ f.fr ∧ f.fr < f.til ∧ f.til < L
theorem floTo_ok (row : List Int) (num k : Int) : ∀ j, (∀ f ∈ (floTo row num k j).1, FloOk num k j f) ∧ -1 ≤ (floTo row num k j).2 ∧ (floTo row num k j).2 < j ∧ (floTo row num k j).1.length ≤ j
  | 0 => ⟨fun f hf => by simp [floTo] at hf, by simp [floTo], by simp [floTo], by simp [floTo]⟩
  | j + 1 => by
    obtain ⟨h1, h2, h3, h4⟩ := floTo_ok row num k j
    have up : ∀ f ∈ (floTo row num k j).1, FloOk num k ((j : Nat) + 1 : Nat) f := fun f hf => by
      obtain ⟨a, b, c, d, e⟩ := h1 f hf
      exact ⟨a, b, c, d, by omega⟩
    unfold floTo floStep
    split
    · split
      · rename_i hc
        refine ⟨fun f hf => ?_, by simp only []; omega, by simp only []; omega, by simp only [List.length_append, List.length_cons, List.length_nil]; omega⟩
        rcases List.mem_append.1 hf with hf | hf
        · exact up f hf
        · obtain rfl : f = _ := by simpa using hf
          exact ⟨rfl, rfl, hc.1, by simp only []; omega, by simp only []; omega⟩
      · exact ⟨up, by simp only []; omega, by simp only []; omega, by simp only []; omega⟩
    · exact ⟨up, h2, by omega, by omega⟩
theorem floL_ok (row : List Int) (num k : Int) : ∀ f ∈ floL row num k, FloOk num k row.length f := (floTo_ok row num k row.length).1
theorem floL_len (row : List Int) (num k : Int) : (floL row num k).length ≤ row.length := (floTo_ok row num k row.length).2.2.2
theorem rowFl_mem (row : List Int) (num : Int) : ∀ n, ∀ f ∈ rowFl row num n, FloOk num f.car row.length f ∧ 1 ≤ f.car ∧ f.car ≤ n
  | 0 => fun f hf => by simp [rowFl] at hf
  | n + 1 => fun f hf => by
    rcases List.mem_append.1 hf with hf | hf
    · obtain ⟨a, b, c⟩ := rowFl_mem row num n f hf
      exact ⟨a, b, by omega⟩
    · obtain ⟨a1, a2, a3⟩ := floL_ok row num _ f hf
      exact ⟨⟨a1, rfl, a3⟩, by omega, by omega⟩
theorem rowFl_len (row : List Int) (num : Int) : ∀ n, (rowFl row num n).length ≤ n * row.length
  | 0 => by simp [rowFl]
  | n + 1 => by
    have h1 := rowFl_len row num n
    have h2 := floL_len row num ((n : Int) + 1)
    rw [rowFl, List.length_append, Nat.add_mul]
    omega
theorem allFl_mem (rows : List (List Int)) : ∀ i, ∀ f ∈ allFl rows i, 0 ≤ f.row ∧ f.row < i ∧ 0 ≤ f.fr ∧ f.fr < f.til
  | 0 => fun f hf => by simp [allFl] at hf
  | i + 1 => fun f hf => by
    rcases List.mem_append.1 hf with hf | hf
    · obtain ⟨a, b, c⟩ := allFl_mem rows i f hf
      exact ⟨a, by omega, c⟩
    · obtain ⟨⟨a1, -, a3, a4, -⟩, -⟩ := rowFl_mem _ _ _ f hf
      exact ⟨by omega, by omega, a3, a4⟩
theorem rowFl_filter (row : List Int) (num k : Int) : ∀ n : Nat, (rowFl row num n).filter (fun f => decide (f.row = num ∧ f.car = k)) = if 1 ≤ k ∧ k ≤ n then floL row num k else []
  | 0 => by
    rw [if_neg (by omega)]
    rfl
  | n + 1 => by
    rw [rowFl, List.filter_append, rowFl_filter row num k n]
    by_cases hk : k = (n : Int) + 1
    · subst hk
      rw [if_neg (by omega), if_pos (by omega), List.nil_append]
      exact List.filter_eq_self.2 fun f hf => by have h := floL_ok row num _ f hf; exact decide_eq_true ⟨h.1, h.2.1⟩
    · have e : (floL row num ((n : Int) + 1)).filter (fun f => decide (f.row = num ∧ f.car = k)) = [] := List.filter_eq_nil_iff.2 fun f hf => by
        have h := floL_ok row num _ f hf
        simp only [decide_eq_true_eq]
        intro hh
        exact hk (hh.2.symm.trans h.2.1)
      rw [e, List.append_nil]
      by_cases h1 : 1 ≤ k ∧ k ≤ n
      · rw [if_pos h1, if_pos (by omega)]
      · rw [if_neg h1, if_neg (by omega)]
theorem allFl_filter (rows : List (List Int)) (i : Nat) (k : Int) (hk : 1 ≤ k ∧ k ≤ 4) : ∀ m : Nat, (allFl rows m).filter (fun f => decide (f.row = (i : Int) ∧ f.car = k)) = if i < m then floL (colAt rows i) i k else []
  | 0 => rfl
  | m + 1 => by
    rw [allFl, List.filter_append, allFl_filter rows i k hk m]
    by_cases h : i = m
    · subst h
      rw [if_neg (by omega), if_pos (by omega), List.nil_append, rowFl_filter, if_pos (by omega)]
    · have e : (rowFl (colAt rows m) m 4).filter (fun f => decide (f.row = (i : Int) ∧ f.car = k)) = [] := List.filter_eq_nil_iff.2 fun f hf => by
        have h1 := (rowFl_mem _ _ _ f hf).1.1
        simp only [decide_eq_true_eq]
        intro hh
        omega
      rw [e, List.append_nil]
      by_cases h1 : i < m
      · rw [if_pos h1, if_pos (by omega)]
      · rw [if_neg h1, if_neg (by omega)]
/-- floats of another row's number: alike but for the number -/
theorem floTo_num (row : List Int) (num num' k : Int) : ∀ j, (floTo row num' k j).2 = (floTo row num k j).2 ∧ (floTo row num' k j).1 = (floTo row num k j).1.map fun f => ⟨num', f.car, f.fr, f.til⟩
  | 0 => ⟨rfl, rfl⟩
  | j + 1 => by
    obtain ⟨h1, h2⟩ := floTo_num row num num' k j
    unfold floTo floStep
    rw [h1]
    split
    · split
      · exact ⟨rfl, by rw [h2]; simp⟩
      · exact ⟨rfl, h2⟩
    · exact ⟨h1, h2⟩
theorem tuck_num (most : Int) (num' : Int) : ∀ (fs : List FloM) (out : List Int), (fs.map fun f => (⟨num', f.car, f.fr, f.til⟩ : FloM)).foldl (tuckF most) out = fs.foldl (tuckF most) out
  | [], _ => rfl
  | f :: fs, out => by
    rw [List.map_cons, List.foldl_cons, List.foldl_cons, tuck_num most num' fs]
    rfl
/-- the tucks of the floats of one row and carrier, picked out of all -/
def tuckIf (most i k : Int) (out : List Int) (f : FloM) : List Int := if f.row = i ∧ f.car = k then tuckF most out f else out
theorem foldl_tuckIf (most i k : Int) : ∀ (fs : List FloM) (out : List Int), fs.foldl (tuckIf most i k) out = (fs.filter (fun f => decide (f.row = i ∧ f.car = k))).foldl (tuckF most) out
  | [], _ => rfl
  | f :: fs, out => by
    rw [List.foldl_cons, foldl_tuckIf most i k fs]
    unfold tuckIf
    by_cases h : f.row = i ∧ f.car = k
    · rw [if_pos h, List.filter_cons_of_pos (by simpa using h), List.foldl_cons]
    · rw [if_neg h, List.filter_cons_of_neg (by simpa using h)]
theorem tucks_all (most : Int) (rows : List (List Int)) {i : Nat} (hi : i < rows.length) (k : Int) (hk : 1 ≤ k ∧ k ≤ 4) (hm : 0 < most) : (allFl rows rows.length).foldl (tuckIf most i k) (baseSt (colAt rows i) k) = stitM (colAt rows i) k most := by
  rw [foldl_tuckIf, allFl_filter rows i k hk, if_pos hi]
  unfold stitM floL
  rw [if_pos hm, (floTo_num (colAt rows i) 0 i k _).2, tuck_num]
theorem tuckIf_length (most i k : Int) (out : List Int) (f : FloM) : (tuckIf most i k out f).length = out.length := by
  unfold tuckIf
  split
  · exact tuckF_length _ _ _
  · rfl
/-- a valid colour chart -/
def okLine (n : Int) (r : List Int) : Bool := decide ((r.length : Int) = n) && r.all carB
def okCol (c : ColM) : Bool := (inB c.n 1 8 && inB c.rs.length 1 8) && c.rs.all (okLine c.n)
def chartC (c : ColM) (most : Int) : ChartM := ⟨c.n, (colTo most c.rs c.rs.length).rs⟩
def catchK (c : ColM) (most : Int) : Int := if okCol c then if inB most 1 8 then if chartB (chartC c most) then 0 else 5 else 2 else 1
def catchL (c : ColM) (most : Int) : ChartM := if okCol c && inB most 1 8 && chartB (chartC c most) then chartC c most else ⟨0, []⟩
end Go.Proofs.YtgdcffbakjfacaaDoor
end
namespace Go.Proofs.YtgdcffbakjfacaaDoor
/-- a world that grew out of another -/
structure UpOf (w : World) where
  wd : World
  up : Up w wd
instance (w : World) : Nonempty (UpOf w) := ⟨⟨w, Chg.refl _ _⟩⟩
section
variable {P : Program}
theorem wp_region_up {id : Nat} {Q : Exit → Act → World → Prop} {a : Act} {w : World} {l : List Oper} (hm : P.follows .mixedOrders = true) (hB : Region.lexB .any l.toArray = true)
    (h : wpQuiet P l.toArray (fun w' => ∃ u : UpOf w, w' = u.wd) (fun a' => ∀ w', (∃ u : UpOf w, w' = u.wd) → Q .normal a' w') l a) : (Code.region id l.toArray true).wp P Q a w :=
  wp_region_quiet (C := fun w' => ∃ u : UpOf w, w' = u.wd) hm hB ⟨⟨w.drew, (Chg.refl _ _).drew⟩, rfl⟩ (by simpa using h)
theorem calls_up {w : World} {f : FuncId} {args : Array Value} {u : UpOf w} {v : Value}
    (h : Calls P f args u.wd fun e w' => e = .returned v ∧ Up u.wd w') : Calls P f args u.wd fun e w'' => e = .returned v ∧ ∃ u' : UpOf w, w'' = u'.wd :=
  h.mono fun _ _ ⟨he, hw⟩ => ⟨he, ⟨_, Chg.trans u.up hw⟩, rfl⟩
theorem calls_up_same {w : World} {f : FuncId} {args : Array Value} {u : UpOf w} {v : Value}
    (h : Calls P f args u.wd fun e w' => e = .returned v ∧ u.wd = w') : Calls P f args u.wd fun e w'' => e = .returned v ∧ ∃ u' : UpOf w, w'' = u'.wd :=
  h.mono fun _ _ ⟨he, hw⟩ => ⟨he, u, hw.symm⟩
theorem calls_up_new {w : World} {f : FuncId} {args : Array Value} {u : UpOf w} {v : Value}
    (h : Calls P f args u.wd fun e w' => e = .returned v ∧ ∃ o, w' = u.wd.alloc o) : Calls P f args u.wd fun e w'' => e = .returned v ∧ ∃ u' : UpOf w, w'' = u'.wd :=
  h.mono fun _ _ ⟨he, o, hw⟩ => ⟨he, ⟨_, by rw [hw]; exact Chg.alloc u.up o⟩, rfl⟩
theorem up_cell {w : World} {p : Addr} {v : Value} (h : w.cell? p = some v) : ∀ u : UpOf w, u.wd.cell? p = some v := fun u => Chg.cell u.up h id
end
end Go.Proofs.YtgdcffbakjfacaaDoor
section
set_option linter.unusedSimpArgs false
set_option linter.unusedVariables false
namespace Go.Proofs.YtgdcffbakjfacaaDoor
open Go.ChangeShapes Go.WideShapes Go.ChangeAt Go.RowKit
def Nst {α : Type} (m : Nat) (E : World → List Value → α → Prop) (w : World) (R : Nat → Prop) (v : Value) (xs : List α) : Prop :=
  ∃ cs, Raw w R m v xs.length cs ∧ ∀ i (hi : i < xs.length), E w ((cs.drop (i * m)).take m) xs[i]
section
variable {α : Type} {m : Nat} {E E' : World → List Value → α → Prop} {w w' : World} {R S T : Nat → Prop} {v : Value} {xs : List α}
theorem Nst.keep (h : Nst m E w R v xs) (hE : ∀ vs x, E w vs x → E' w' vs x) (g : Chg T w w') (hd : ∀ b, b < w.heap.size → R b → ¬ T b) : Nst m E' w' R v xs :=
  let ⟨cs, h1, h2⟩ := h; ⟨cs, h1.keep g hd, fun i hi => hE _ _ (h2 i hi)⟩
theorem Nst.up (h : Nst m E w R v xs) (hE : ∀ vs x, E w vs x → E w' vs x) (g : Up w w') : Nst m E w' R v xs := h.keep hE g fun _ _ _ h => h
theorem Nst.mono (h : Nst m E w R v xs) (hE : ∀ vs x, E w vs x → E' w vs x) (hs : ∀ b, b < w.heap.size → R b → S b) : Nst m E' w S v xs :=
  let ⟨cs, h1, h2⟩ := h; ⟨cs, h1.mono hs, fun i hi => hE _ _ (h2 i hi)⟩
theorem Nst.shape (h : Nst m E w R v xs) : ∃ A c, v = .slice A xs.length c ∧ xs.length ≤ c ∧ c ≤ 9223372036854775807 ∧ (A = none → c = 0) :=
  let ⟨_, h1, _⟩ := h; h1.shape
theorem Nst.nil (w : World) (R : Nat → Prop) (A : Option Addr) (c : Nat) (hc : c ≤ 9223372036854775807) (hA : A = none → c = 0 := by simp) : Nst m E w R (.slice A 0 c) ([] : List α) :=
  ⟨[], Raw.nil w R m c A hc hA, fun i hi => absurd hi (by simp)⟩
theorem chunk_lt {i n m j : Nat} (hi : i < n) (hj : j < m) : i * m + j < n * m := by
  have : (i + 1) * m ≤ n * m := Nat.mul_le_mul_right m hi
  rw [Nat.add_mul] at this
  omega
theorem Nst.at_ (h : Nst m E w R v xs) {i : Nat} (hi : i < xs.length) : ∃ b o c vs, v = .slice (some ⟨b, o, none⟩) xs.length c ∧ R b ∧ b < w.heap.size ∧ vs.length = m ∧ E w vs xs[i] ∧
    ∀ j u, vs[j]? = some u → w.cell? ⟨b, o + i * m + j, none⟩ = some u ∧ w.frozen? ⟨b, o + i * m + j, none⟩ = false := by
  obtain ⟨cs, ⟨h0, A, c, hv, h1, h2, h4, _⟩, h5⟩ := h
  obtain ⟨b, o, rfl, hs, hb, hc⟩ := h4 (by omega)
  have hlen : ((cs.drop (i * m)).take m).length = m := by
    have : (i + 1) * m ≤ xs.length * m := Nat.mul_le_mul_right m hi
    rw [Nat.add_mul] at this
    simp
    omega
  refine ⟨b, o, c, _, hv, hs, hb, hlen, h5 i hi, fun j u hu => ?_⟩
  have hj : j < m := by
    obtain ⟨hj, _⟩ := List.getElem?_eq_some_iff.1 hu
    omega
  have hlt := chunk_lt hi hj
  have hcc := hc (i * m + j) (by omega)
  rw [← Nat.add_assoc] at hcc
  rw [List.getElem?_take_of_lt hj, List.getElem?_drop] at hu
  obtain ⟨hj2, he⟩ := List.getElem?_eq_some_iff.1 hu
  rw [he] at hcc
  exact hcc
/-- the elements that were copied so far -/
def ChunkIn (m : Nat) (E : World → List Value → α → Prop) (w : World) (cs : List Value) (xs : List α) (j : Nat) : Prop :=
  cs.length = j * m ∧ ∀ i (hi : i < xs.length), i < j → E w ((cs.drop (i * m)).take m) xs[i]
theorem ChunkIn.start : ChunkIn m E w [] xs 0 := ⟨by simp, fun i _ h => by omega⟩
theorem ChunkIn.keep {cs : List Value} {j : Nat} (h : ChunkIn m E w cs xs j) (hE : ∀ vs x, E w vs x → E' w' vs x) : ChunkIn m E' w' cs xs j :=
  ⟨h.1, fun i hi hij => hE _ _ (h.2 i hi hij)⟩
theorem ChunkIn.next {cs vs : List Value} {j : Nat} (h : ChunkIn m E w cs xs j) (hj : j < xs.length) (hl : vs.length = m) (hv : E w vs xs[j]) : ChunkIn m E w (cs ++ vs) xs (j + 1) := by
  refine ⟨by rw [List.length_append, h.1, hl, Nat.add_mul]; omega, fun i hi hij => ?_⟩
  by_cases he : i < j
  · have hle : (i + 1) * m ≤ j * m := Nat.mul_le_mul_right m he
    rw [Nat.add_mul] at hle
    have h1 := h.1
    have e : ((cs ++ vs).drop (i * m)).take m = (cs.drop (i * m)).take m := by
      rw [List.drop_append_of_le_length (by omega), List.take_append_of_le_length (by simp; omega)]
    rw [e]
    exact h.2 i hi he
  · obtain rfl : i = j := by omega
    have e : ((cs ++ vs).drop (i * m)).take m = vs := by
      rw [← h.1, List.drop_left, ← hl, List.take_length]
    rw [e]
    exact hv
theorem Nst.done {cs : List Value} {b : Nat} (h : Copying w b m xs.length xs.length cs) (k : ChunkIn m E w cs xs xs.length) (hS : R b) (hb : b < w.heap.size) (hm : xs.length ≤ 9223372036854775807) : Nst m E w R (.slice (some ⟨b, 0, none⟩) xs.length xs.length) xs :=
  ⟨cs, Copying.done h hS hb k.1 hm, fun i hi => k.2 i hi hi⟩
theorem Copying.grows {b n j : Nat} {cs : List Value} (h : Copying w b m n j cs) (hl : cs.length = j * m) (vs : List Value) : Copying w b m n j (cs ++ vs) := fun t ht => by
  obtain ⟨h1, h2, h3⟩ := h t ht
  refine ⟨h1, h2, fun hlt => ?_⟩
  rw [h3 hlt, List.getElem?_append_left (by omega)]
/-- one element more is laid -/
theorem Copying.nextm {b n j : Nat} {cs vs : List Value} (h : Copying w b m n j cs) (hj : j < n) (hc : cs.length = j * m) (hl : vs.length = m) : Copying (w.setCells b (j * m) vs) b m n (j + 1) (cs ++ vs) :=
  Copying.next (Copying.grows h hc vs) hj hl fun i hi => by
    rw [List.getElem?_append_right (by omega), hc, Nat.add_sub_cancel_left]
    exact List.getElem?_eq_getElem hi
theorem Copying.next1 {b n j : Nat} {cs : List Value} (h : Copying w b 1 n j cs) (hj : j < n) (hc : cs.length = j * 1) (u : Value) : Copying (w.setCell ⟨b, j, none⟩ u) b 1 n (j + 1) (cs ++ [u]) := by
  have h1 := Copying.nextm h hj hc (vs := [u]) rfl
  rw [Nat.mul_one] at h1
  exact h1
/-- the sums of what the first elements are worth -/
def cntF (f : α → Nat) (xs : List α) (j : Nat) : Nat := ((xs.take j).map f).sum
theorem cntF_succ {f : α → Nat} {j : Nat} (h : j < xs.length) : cntF f xs (j + 1) = cntF f xs j + f xs[j] := by
  unfold cntF
  rw [List.take_succ_eq_append_getElem h, List.map_append, List.sum_append]
  simp
theorem cntF_le {f : α → Nat} {i j : Nat} (h : i ≤ j) : cntF f xs i ≤ cntF f xs j := by
  unfold cntF
  have e : (xs.take j) = (xs.take j).take i ++ (xs.take j).drop i := (List.take_append_drop i _).symm
  rw [List.take_take, Nat.min_eq_left h] at e
  rw [e]
  simp
def szF (f : α → Nat) (xs : List α) : Nat := xs.length + cntF f xs xs.length
theorem szF_at {f : α → Nat} {j : Nat} (h : j < xs.length) : f xs[j] + xs.length ≤ szF f xs := by
  have h1 := cntF_succ (f := f) h
  have h2 := cntF_le (f := f) (xs := xs) (show j + 1 ≤ xs.length by omega)
  unfold szF
  omega
end
theorem Up.of_eq {w w' : World} (h : w = w') : Up w w' := h ▸ Chg.refl _ _
theorem CellF.set {w : World} {p : Addr} {u u' : Value} (h : CellF w p u') : CellF (w.setCell p u) p u := ⟨World.cell?_setCell_same _ _ _ h.1, by simpa using h.2⟩
theorem CellF.set_ne {w : World} {p q : Addr} {u x : Value} (h : CellF w p u) (hn : p ≠ q) : CellF (w.setCell q x) p u := ⟨(World.cell?_setCell_other _ _ _ _ (Ne.symm hn)).trans h.1, by simpa using h.2⟩
/-- blocks between lo and hi, of three kinds: rows of structs, rows of slices, rows of numbers -/
def ApartN (lo hi : Nat) (M H L : Nat → Prop) : Prop :=
  (∀ b, M b ∨ H b ∨ L b → lo ≤ b ∧ b < hi) ∧ (∀ b, M b → ¬ H b) ∧ (∀ b, M b → ¬ L b) ∧ (∀ b, H b → ¬ L b)
def Un (A B : Nat → Prop) : Nat → Prop := fun b => A b ∨ B b
theorem ApartN.none (lo hi : Nat) : ApartN lo hi Nowhere Nowhere Nowhere := ⟨fun b h => h.elim (fun h => h.elim) fun h => h.elim (fun h => h.elim) fun h => h.elim, fun b h => h.elim, fun b h => h.elim, fun b h => h.elim⟩
theorem ApartN.row {lo hi g : Nat} (h1 : lo ≤ g) (h2 : g < hi) : ApartN lo hi Nowhere (fun b => b = g) (New (g + 1) hi) :=
  ⟨fun b h => by
    rcases h with h | h | h
    · exact h.elim
    · have h : b = g := h
      omega
    · have := h.1
      exact ⟨by omega, h.2⟩, fun b h => h.elim, fun b h => h.elim, fun b h k => by
    have h : b = g := h
    have := k.1
    omega⟩
theorem ApartN.leaf {lo hi g : Nat} (h1 : lo ≤ g) : ApartN lo hi Nowhere Nowhere (New g hi) :=
  ⟨fun b h => by
    rcases h with h | h | h
    · exact h.elim
    · exact h.elim
    · exact ⟨Nat.le_trans h1 h.1, h.2⟩, fun b h => h.elim, fun b h => h.elim, fun b h => h.elim⟩
theorem ApartN.widen {lo lo' hi hi' : Nat} {M H L : Nat → Prop} (h : ApartN lo hi M H L) (h1 : lo' ≤ lo) (h2 : hi ≤ hi') : ApartN lo' hi' M H L :=
  ⟨fun b hb => by
    have := h.1 b hb
    omega, h.2⟩
theorem ApartN.un {lo mid hi : Nat} {M H L M' H' L' : Nat → Prop} (h : ApartN lo mid M H L) (k : ApartN mid hi M' H' L') (h1 : lo ≤ mid) (h2 : mid ≤ hi) : ApartN lo hi (Un M M') (Un H H') (Un L L') := by
  have a1 : ∀ b, M b → b < mid := fun b x => (h.1 b (.inl x)).2
  have a2 : ∀ b, H b → b < mid := fun b x => (h.1 b (.inr (.inl x))).2
  have a3 : ∀ b, L b → b < mid := fun b x => (h.1 b (.inr (.inr x))).2
  have c1 : ∀ b, M' b → mid ≤ b := fun b x => (k.1 b (.inl x)).1
  have c2 : ∀ b, H' b → mid ≤ b := fun b x => (k.1 b (.inr (.inl x))).1
  have c3 : ∀ b, L' b → mid ≤ b := fun b x => (k.1 b (.inr (.inr x))).1
  refine ⟨fun b x => ?_, fun b x y => ?_, fun b x y => ?_, fun b x y => ?_⟩
  · rcases x with (x | x) | (x | x) | (x | x)
    · have := h.1 b (.inl x); omega
    · have := k.1 b (.inl x); omega
    · have := h.1 b (.inr (.inl x)); omega
    · have := k.1 b (.inr (.inl x)); omega
    · have := h.1 b (.inr (.inr x)); omega
    · have := k.1 b (.inr (.inr x)); omega
  · rcases x with x | x <;> rcases y with y | y
    · exact h.2.1 b x y
    · have := a1 b x; have := c2 b y; omega
    · have := c1 b x; have := a2 b y; omega
    · exact k.2.1 b x y
  · rcases x with x | x <;> rcases y with y | y
    · exact h.2.2.1 b x y
    · have := a1 b x; have := c3 b y; omega
    · have := c1 b x; have := a3 b y; omega
    · exact k.2.2.1 b x y
  · rcases x with x | x <;> rcases y with y | y
    · exact h.2.2.2 b x y
    · have := a2 b x; have := c3 b y; omega
    · have := c2 b x; have := a3 b y; omega
    · exact k.2.2.2 b x y
theorem ApartN.addRow {lo g hi : Nat} {M H L : Nat → Prop} (h : ApartN (g + 1) hi M H L) (h1 : lo ≤ g) (h2 : g < hi) : ApartN lo hi (Un (fun b => b = g) M) H L := by
  have a : ∀ b, M b ∨ H b ∨ L b → g < b := fun b x => (h.1 b x).1
  refine ⟨fun b x => ?_, fun b x y => ?_, fun b x y => ?_, h.2.2.2⟩
  · rcases x with (x | x) | x
    · have x : b = g := x
      omega
    · have := h.1 b (.inl x); omega
    · have := h.1 b (.inr x); omega
  · rcases x with x | x
    · have x : b = g := x
      have := a b (.inr (.inl y))
      omega
    · exact h.2.1 b x y
  · rcases x with x | x
    · have x : b = g := x
      have := a b (.inr (.inr y))
      omega
    · exact h.2.2.1 b x y
end Go.Proofs.YtgdcffbakjfacaaDoor
end
section
set_option linter.unusedSimpArgs false
set_option linter.unusedVariables false
set_option maxRecDepth 100000
set_option maxHeartbeats 1000000
namespace Go.Proofs.YtgdcffbakjfacaaDoor
open Go.ChangeShapes Go.WideShapes Go.ChangeAt Go.RowKit
def IntsE (L : Nat → Prop) (w : World) (vs : List Value) (x : List Int) : Prop := ∃ A c, vs = [.slice A x.length c] ∧ Ints w L (.slice A x.length c) x ∧ x.length ≤ c ∧ c ≤ 9223372036854775807
theorem IntsE.val {L : Nat → Prop} {w : World} {vs : List Value} {x : List Int} (h : IntsE L w vs x) : ∃ A c, vs = [.slice A x.length c] ∧ Ints w L (.slice A x.length c) x ∧ x.length ≤ c ∧ c ≤ 9223372036854775807 := h
theorem IntsE.keep {L T : Nat → Prop} {w w' : World} {vs : List Value} {x : List Int} (h : IntsE L w vs x) (g : Chg T w w') (hd : ∀ b, b < w.heap.size → L b → ¬ T b) : IntsE L w' vs x := let ⟨A, c, h1, h2, h3⟩ := h; ⟨A, c, h1, h2.keep g hd, h3⟩
theorem IntsE.up {L : Nat → Prop} {w w' : World} {vs : List Value} {x : List Int} (h : IntsE L w vs x) (g : Up w w') : IntsE L w' vs x := h.keep g fun _ _ _ h => h
theorem IntsE.mono {L T : Nat → Prop} {w : World} {vs : List Value} {x : List Int} (h : IntsE L w vs x) (hs : ∀ b, b < w.heap.size → L b → T b) : IntsE T w vs x := let ⟨A, c, h1, h2, h3⟩ := h; ⟨A, c, h1, h2.mono hs, h3⟩
def IntSSV (w : World) (M H L : Nat → Prop) (v : Value) (xs : List (List Int)) : Prop := Nst 1 (IntsE L) w H v xs
theorem IntSSV.keep {M H L T : Nat → Prop} {w w' : World} {v : Value} {xs : List (List Int)} (h : IntSSV w M H L v xs) (g : Chg T w w') (hd : ∀ b, M b ∨ H b ∨ L b → ¬ T b) : IntSSV w' M H L v xs :=
  Nst.keep h (fun _ _ k => IntsE.keep k g (fun b _ h => hd b (.inr (.inr h)))) g (fun b _ h => hd b (.inr (.inl h)))
theorem IntSSV.up {M H L : Nat → Prop} {w w' : World} {v : Value} {xs : List (List Int)} (h : IntSSV w M H L v xs) (g : Up w w') : IntSSV w' M H L v xs := h.keep g fun _ _ h => h
theorem IntSSV.mono {M H L M' H' L' : Nat → Prop} {w : World} {v : Value} {xs : List (List Int)} (h : IntSSV w M H L v xs) (hm : ∀ b, b < w.heap.size → M b → M' b) (hr : ∀ b, b < w.heap.size → H b → H' b) (hl : ∀ b, b < w.heap.size → L b → L' b) : IntSSV w M' H' L' v xs :=
  Nst.mono h (fun _ _ k => IntsE.mono k hl) hr
theorem IntSSV.shape {M H L : Nat → Prop} {w : World} {v : Value} {xs : List (List Int)} (h : IntSSV w M H L v xs) : ∃ A c, v = .slice A xs.length c ∧ xs.length ≤ c ∧ c ≤ 9223372036854775807 ∧ (A = none → c = 0) := Nst.shape h
theorem IntSSV.at_ {M H L : Nat → Prop} {w : World} {v : Value} {xs : List (List Int)} (h : IntSSV w M H L v xs) {i : Nat} (hi : i < xs.length) : ∃ b o c vs, v = .slice (some ⟨b, o, none⟩) xs.length c ∧ H b ∧ b < w.heap.size ∧ vs.length = 1 ∧ IntsE L w vs xs[i] ∧
    ∀ j u, vs[j]? = some u → w.cell? ⟨b, o + i * 1 + j, none⟩ = some u ∧ w.frozen? ⟨b, o + i * 1 + j, none⟩ = false := Nst.at_ h hi
theorem infoIntSSV : (Tryd.prog.info? 31).map (fun i => (i.zero, i.size, i.bytes)) = some (some (.slice none 0 0), 1, 24) := by kernel_rfl
end Go.Proofs.YtgdcffbakjfacaaDoor
end
section
set_option linter.unusedSimpArgs false
set_option linter.unusedVariables false
set_option maxRecDepth 100000
set_option maxHeartbeats 1000000
namespace Go.Proofs.YtgdcffbakjfacaaDoor
open Go.ChangeShapes Go.WideShapes Go.ChangeAt Go.RowKit
structure NormM where
  n : Int
  p : Int
  fs : List (List Int)
def NormE (M H L : Nat → Prop) (w : World) (vs : List Value) (x : NormM) : Prop := ∃ A c, vs = [.int .i64 x.n, .int .i64 x.p, .slice A x.fs.length c] ∧ IntSSV w M H L (.slice A x.fs.length c) x.fs ∧ (x.fs.length ≤ c ∧ c ≤ 9223372036854775807) ∧ I64 x.n ∧ I64 x.p
theorem NormE.keep {M H L T : Nat → Prop} {w w' : World} {vs : List Value} {x : NormM} (h : NormE M H L w vs x) (g : Chg T w w') (hd : ∀ b, M b ∨ H b ∨ L b → ¬ T b) : NormE M H L w' vs x := let ⟨A, c, he, h0, h1, h2, h3⟩ := h; ⟨A, c, he, h0.keep g hd, h1, h2, h3⟩
theorem NormE.up {M H L : Nat → Prop} {w w' : World} {vs : List Value} {x : NormM} (h : NormE M H L w vs x) (g : Up w w') : NormE M H L w' vs x := h.keep g fun _ _ h => h
theorem NormE.mono {M H L M' H' L' : Nat → Prop} {w : World} {vs : List Value} {x : NormM} (h : NormE M H L w vs x) (hm : ∀ b, b < w.heap.size → M b → M' b) (hr : ∀ b, b < w.heap.size → H b → H' b) (hl : ∀ b, b < w.heap.size → L b → L' b) : NormE M' H' L' w vs x := let ⟨A, c, he, h0, h1, h2, h3⟩ := h; ⟨A, c, he, h0.mono hm hr hl, h1, h2, h3⟩
def NormV (w : World) (M H L : Nat → Prop) (v : Value) (x : NormM) : Prop := ∃ A c, v = .agg #[.int .i64 x.n, .int .i64 x.p, .slice A x.fs.length c] ∧ IntSSV w M H L (.slice A x.fs.length c) x.fs ∧ (x.fs.length ≤ c ∧ c ≤ 9223372036854775807) ∧ I64 x.n ∧ I64 x.p
theorem NormV.keep {M H L T : Nat → Prop} {w w' : World} {v : Value} {x : NormM} (h : NormV w M H L v x) (g : Chg T w w') (hd : ∀ b, M b ∨ H b ∨ L b → ¬ T b) : NormV w' M H L v x := let ⟨A, c, he, h0, h1, h2, h3⟩ := h; ⟨A, c, he, h0.keep g hd, h1, h2, h3⟩
theorem NormV.up {M H L : Nat → Prop} {w w' : World} {v : Value} {x : NormM} (h : NormV w M H L v x) (g : Up w w') : NormV w' M H L v x := h.keep g fun _ _ h => h
theorem NormV.mono {M H L M' H' L' : Nat → Prop} {w : World} {v : Value} {x : NormM} (h : NormV w M H L v x) (hm : ∀ b, b < w.heap.size → M b → M' b) (hr : ∀ b, b < w.heap.size → H b → H' b) (hl : ∀ b, b < w.heap.size → L b → L' b) : NormV w M' H' L' v x := let ⟨A, c, he, h0, h1, h2, h3⟩ := h; ⟨A, c, he, h0.mono hm hr hl, h1, h2, h3⟩
theorem NormE.val {M H L : Nat → Prop} {w : World} {vs : List Value} {x : NormM} (h : NormE M H L w vs x) : ∃ A c, vs = [.int .i64 x.n, .int .i64 x.p, .slice A x.fs.length c] ∧ NormV w M H L (.agg #[.int .i64 x.n, .int .i64 x.p, .slice A x.fs.length c]) x :=
  let ⟨A, c, he, h0, h1, h2, h3⟩ := h; ⟨A, c, he, A, c, rfl, h0, h1, h2, h3⟩
theorem NormV.val {M H L : Nat → Prop} {w : World} {v : Value} {x : NormM} (h : NormV w M H L v x) : ∃ A c, v = .agg #[.int .i64 x.n, .int .i64 x.p, .slice A x.fs.length c] ∧ NormV w M H L (.agg #[.int .i64 x.n, .int .i64 x.p, .slice A x.fs.length c]) x := by
  obtain ⟨A, c, rfl, h0, h1, h2, h3⟩ := h
  exact ⟨_, _, rfl, _, _, rfl, h0, h1, h2, h3⟩
theorem NormV.parts {M H L : Nat → Prop} {w : World} {v : Value} {x : NormM} (h : NormV w M H L v x) : ∃ A c, v = .agg #[.int .i64 x.n, .int .i64 x.p, .slice A x.fs.length c] ∧ IntSSV w M H L (.slice A x.fs.length c) x.fs ∧ (x.fs.length ≤ c ∧ c ≤ 9223372036854775807) ∧ I64 x.n ∧ I64 x.p := h
theorem NormE.mk {M H L : Nat → Prop} {w : World} {x : NormM} {B : Option Addr} {d : Nat} (h : NormV w M H L (.agg #[.int .i64 x.n, .int .i64 x.p, .slice B x.fs.length d]) x) : NormE M H L w [.int .i64 x.n, .int .i64 x.p, .slice B x.fs.length d] x := by
  obtain ⟨A, c, he, h0, h1, h2, h3⟩ := h
  simp only [Value.agg.injEq, Array.mk.injEq, List.cons.injEq, Value.slice.injEq, true_and, and_true] at he
  obtain ⟨rfl, rfl⟩ := he
  exact ⟨_, _, rfl, h0, h1, h2, h3⟩
def NormSV (w : World) (M H L : Nat → Prop) (v : Value) (xs : List NormM) : Prop := Nst 3 (NormE M H L) w M v xs
theorem NormSV.keep {M H L T : Nat → Prop} {w w' : World} {v : Value} {xs : List NormM} (h : NormSV w M H L v xs) (g : Chg T w w') (hd : ∀ b, M b ∨ H b ∨ L b → ¬ T b) : NormSV w' M H L v xs :=
  Nst.keep h (fun _ _ k => NormE.keep k g hd) g (fun b _ h => hd b (.inl h))
theorem NormSV.up {M H L : Nat → Prop} {w w' : World} {v : Value} {xs : List NormM} (h : NormSV w M H L v xs) (g : Up w w') : NormSV w' M H L v xs := h.keep g fun _ _ h => h
theorem NormSV.mono {M H L M' H' L' : Nat → Prop} {w : World} {v : Value} {xs : List NormM} (h : NormSV w M H L v xs) (hm : ∀ b, b < w.heap.size → M b → M' b) (hr : ∀ b, b < w.heap.size → H b → H' b) (hl : ∀ b, b < w.heap.size → L b → L' b) : NormSV w M' H' L' v xs :=
  Nst.mono h (fun _ _ k => NormE.mono k hm hr hl) hm
theorem NormSV.shape {M H L : Nat → Prop} {w : World} {v : Value} {xs : List NormM} (h : NormSV w M H L v xs) : ∃ A c, v = .slice A xs.length c ∧ xs.length ≤ c ∧ c ≤ 9223372036854775807 ∧ (A = none → c = 0) := Nst.shape h
theorem NormSV.at_ {M H L : Nat → Prop} {w : World} {v : Value} {xs : List NormM} (h : NormSV w M H L v xs) {i : Nat} (hi : i < xs.length) : ∃ b o c vs, v = .slice (some ⟨b, o, none⟩) xs.length c ∧ M b ∧ b < w.heap.size ∧ vs.length = 3 ∧ NormE M H L w vs xs[i] ∧
    ∀ j u, vs[j]? = some u → w.cell? ⟨b, o + i * 3 + j, none⟩ = some u ∧ w.frozen? ⟨b, o + i * 3 + j, none⟩ = false := Nst.at_ h hi
end Go.Proofs.YtgdcffbakjfacaaDoor
end
namespace Go.Proofs.YtgdcffbakjfacaaDoor
open Go.ChangeShapes Go.WideShapes Go.ChangeAt Go.RowKit
structure EvM where
  kind : Int
  place : Int
  count : Int
  bed : Int
  car : Int
  dir : Int
def EvM.cells (x : EvM) : List Value := [.int .i64 x.kind, .int .i64 x.place, .int .i64 x.count, .int .i64 x.bed, .int .i64 x.car, .int .i64 x.dir]
def EvM.ok (x : EvM) : Prop := I64 x.kind ∧ I64 x.place ∧ I64 x.count ∧ I64 x.bed ∧ I64 x.car ∧ I64 x.dir
theorem EvM.cells_length (x : EvM) : x.cells.length = 6 := rfl
abbrev EvM.val (x : EvM) : Value := .agg #[.int .i64 x.kind, .int .i64 x.place, .int .i64 x.count, .int .i64 x.bed, .int .i64 x.car, .int .i64 x.dir]
/-- a slice that reads as the list xs -/
def Evs (w : World) (S : Nat → Prop) (v : Value) (xs : List EvM) : Prop := Raw w S 6 v xs.length (xs.flatMap EvM.cells) ∧ ∀ x ∈ xs, x.ok
section
variable {S T : Nat → Prop} {w w' : World} {v : Value} {xs : List EvM}
theorem Evs.keep (h : Evs w S v xs) (g : Chg T w w') (hd : ∀ b, b < w.heap.size → S b → ¬ T b) : Evs w' S v xs := ⟨h.1.keep g hd, h.2⟩
theorem Evs.up (h : Evs w S v xs) (g : Up w w') : Evs w' S v xs := ⟨h.1.up g, h.2⟩
theorem Evs.alloc' (h : Evs w S v xs) (o : Obj) : Evs (w.alloc o) S v xs := h.up ((Chg.refl _ _).alloc o)
theorem Evs.mono (h : Evs w S v xs) (hs : ∀ b, b < w.heap.size → S b → T b) : Evs w T v xs := ⟨h.1.mono hs, h.2⟩
theorem Evs.shape (h : Evs w S v xs) : ∃ A c, v = .slice A xs.length c ∧ xs.length ≤ c ∧ c ≤ 9223372036854775807 ∧ (A = none → c = 0) := h.1.shape
theorem Evs.nil (w : World) (S : Nat → Prop) (c : Nat) (A : Option Addr) (hc : c ≤ 9223372036854775807) (hA : A = none → c = 0 := by simp) : Evs w S (.slice A 0 c) [] := ⟨Raw.nil w S 6 c A hc hA, by simp⟩
theorem Evs.at_ (h : Evs w S v xs) {i : Nat} (hi : i < xs.length) : ∃ b o c, v = .slice (some ⟨b, o, none⟩) xs.length c ∧ S b ∧ b < w.heap.size ∧
    ∀ j u, (xs[i].cells)[j]? = some u → w.cell? ⟨b, o + i * 6 + j, none⟩ = some u ∧ w.frozen? ⟨b, o + i * 6 + j, none⟩ = false := Raw.at_ EvM.cells_length h.1 hi
end
def MEvs (w : World) (S : Nat → Prop) (v : Value) (xs : List EvM) (k : Int) : Prop := Raw w S 6 v xs.length (markCells k (xs.length * 6))
theorem MEvs.keep {S T : Nat → Prop} {w w' : World} {v : Value} {xs : List EvM} {k : Int} (h : MEvs w S v xs k) (g : Chg T w w') (hd : ∀ b, b < w.heap.size → S b → ¬ T b) : MEvs w' S v xs k := Raw.keep h g hd
theorem MEvs.up {S : Nat → Prop} {w w' : World} {v : Value} {xs : List EvM} {k : Int} (h : MEvs w S v xs k) (g : Up w w') : MEvs w' S v xs k := Raw.up h g
def cntEvs (xs : List EvM) : Nat := xs.length * 6
theorem cells_oneEvs (x : EvM) : ∀ u ∈ x.cells, u.oneCell' = true := by
  intro u hu
  simp only [EvM.cells, List.mem_cons, List.not_mem_nil, or_false] at hu
  rcases hu with rfl | rfl | rfl | rfl | rfl | rfl <;> rfl
end Go.Proofs.YtgdcffbakjfacaaDoor
namespace Go.Proofs.YtgdcffbakjfacaaDoor
open Go.ChangeShapes Go.WideShapes Go.ChangeAt Go.RowKit
end Go.Proofs.YtgdcffbakjfacaaDoor
