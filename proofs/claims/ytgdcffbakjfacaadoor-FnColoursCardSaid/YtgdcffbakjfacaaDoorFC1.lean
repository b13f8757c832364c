/- Small lemmas for all walks of this seat: plain facts on numbers, on worlds that grew, and a law's last step. No condition. Contracts of the small functions on numbers. No condition. Rows of stitches as plain data: the columns that stitches take and make; lists of numbers one after the other. No condition. -/
import Derived.Test.YtgdcffbakjfacaaDoorRows
import Derived.WalkKit
import Derived.ProofKit
import Derived.OpenShut
import Derived.JoinedCond
import Derived.Lib.Hide
import Derived.IntWalk
namespace Go.Proofs.YtgdcffbakjfacaaDoor
open Go.ChangeShapes Go.WideShapes Go.ChangeAt Go.RowKit

/-- a number that fits an int64 -/
def I64 (n : Int) : Prop := -9223372036854775808 ≤ n ∧ n ≤ 9223372036854775807
theorem I64.of_wf {n : Int} (h : (Lit.int .i64 n).wf = true) : I64 n := by
  unfold I64
  simpa [Lit.wf, IntKind.min, IntKind.max, IntKind.signed, IntKind.bits] using h

theorem ret_bool {a b : Bool} (h : a = b) : Ending.returned (.bool a) = .returned (.bool b) := by rw [h]
theorem ret_int {k : IntKind} {a b : Int} (h : a = b) : Ending.returned (.int k a) = .returned (.int k b) := by rw [h]

section
variable {H : Type} {enc : TypeId × Value → H} {P : Program}
/-- all arguments read again, behind a call that left what was there -/
theorem args_below {W W' : World} (hl : laidOutB P = true) (hb : Below W.heap.size W W') :
    ∀ {ts : List TypeId} {vs : List Value} {ds : List (DataW H)} {p : List MemPlace}, (∀ t ∈ ts, P.readableRec t = true ∧ t < P.types.size) →
      DataW.TrodAll enc P W 0 (fun _ => true) true ts vs ds p → (∀ x ∈ p, x.block < W.heap.size) → DataW.TrodAll enc P W' 0 (fun b => decide (b < W.heap.size)) true ts vs ds p := by
  intro ts
  induction ts with
  | nil =>
    intro vs ds p _ h _
    obtain ⟨rfl, rfl, rfl⟩ := trodAll_nil h
    exact trodAll_mk0
  | cons t ts ih =>
    intro vs ds p ht h hlt
    obtain ⟨v0, vs0, d0, ds0, p0, q0, rfl, rfl, rfl, h0, r0⟩ := trodAll_cons h
    exact trodAll_cons_mk (Below.trod hl (ht t (by simp)).1 (ht t (by simp)).2 h0 hb (fun x hx => hlt x (by simp [hx])))
      (ih (fun u hu => ht u (by simp [hu])) r0 (fun x hx => hlt x (by simp [hx])))

/-- A LAW's LAST STEP: the call returned true, and what was there is as it was. -/
theorem law_post {f : Func} {s : ChangeSpec} {W W' : World} {args : Array Value} {ds gs : List (DataW H)} {before : List MemPlace} {T : TypeId}
    (hl : laidOutB P = true) (hp : ∀ t ∈ f.params.toList, P.readableRec t = true ∧ t < P.types.size) (hr : f.resultTypes = #[T]) (hT : P.underlying T = some .bool)
    (hv : s.vars = []) (hf : s.fn H (ds ++ []) = { results := [.lit (.bool true)], args := ds })
    (hW : DataW.Whole enc P f.params.toList s.vars false W args.toList ds gs before) (hb : Below W.heap.size W W') :
    s.post enc P f false true false false W args (.bool true) W' := by
  have hW' := hW
  obtain ⟨p, q, hA, hV, rfl, hz, hn⟩ := hW'
  rw [hv] at hV
  obtain ⟨rfl, rfl⟩ := trodVars_none hV
  have hlt : ∀ x ∈ p, x.block < W.heap.size := fun x hx => hW.lt x (by simpa using hx)
  refine ⟨ds, [], p ++ [], [], p, [], hW, ?_, ?_, ?_, ?_, fun h => by cases h⟩
  · rw [hf, hr]
    exact trodAll_cons_mk (shut_bool hT _) trodAll_mk0
  · rw [hf]
    exact args_below hl hb hp hA hlt
  · rw [hf, hv]
    exact rfl
  · exact World.keptBut_mono (fun x hx => ⟨by simpa using hx, Or.inr (Or.inl hx)⟩) (hb.frame (· ∈ p))
end
end Go.Proofs.YtgdcffbakjfacaaDoor
namespace Go.Proofs.YtgdcffbakjfacaaDoor
open Go.ChangeShapes Go.WideShapes Go.ChangeAt Go.RowKit
def inB (n lo hi : Int) : Bool := decide (lo ≤ n ∧ n ≤ hi)
theorem inB_yes {n lo hi : Int} (h : lo ≤ n ∧ n ≤ hi) : inB n lo hi = true := decide_eq_true h
theorem inB_no {n lo hi : Int} (h : n < lo ∨ hi < n) : inB n lo hi = false := decide_eq_false (by omega)
theorem within_any (n lo hi : Int) (w : World) :
    Calls Tryd.prog 23 #[.int .i64 n, .int .i64 lo, .int .i64 hi] w fun e w' => e = .returned (.bool (inB n lo hi)) ∧ w = w' := by
  by_cases h : lo ≤ n
  · go_enter Tryd.func23, Tryd.ntmps23
    go_wp2
    go_ret
    exact ⟨ret_bool (by simp [inB, h]), rfl⟩
  · go_enter Tryd.func23, Tryd.ntmps23
    go_wp2
    go_ret
    exact ⟨ret_bool (by unfold inB; simp; omega), rfl⟩
theorem within_yes (n lo hi : Int) (w : World) (h : lo ≤ n ∧ n ≤ hi) :
    Calls Tryd.prog 23 #[.int .i64 n, .int .i64 lo, .int .i64 hi] w fun e w' => e = .returned (.bool true) ∧ w = w' :=
  (within_any n lo hi w).mono fun _ _ ⟨he, hw⟩ => ⟨by rw [he, inB_yes h], hw⟩
theorem within_no (n lo hi : Int) (w : World) (h : n < lo ∨ hi < n) :
    Calls Tryd.prog 23 #[.int .i64 n, .int .i64 lo, .int .i64 hi] w fun e w' => e = .returned (.bool false) ∧ w = w' :=
  (within_any n lo hi w).mono fun _ _ ⟨he, hw⟩ => ⟨by rw [he, inB_no h], hw⟩
theorem ret_ib {a b : Int} {c d : Bool} (h : a = b) (k : c = d) : Ending.returned (.tuple #[.int .i64 a, .bool c]) = .returned (.tuple #[.int .i64 b, .bool d]) := by rw [h, k]
end Go.Proofs.YtgdcffbakjfacaaDoor
namespace Go.Proofs.YtgdcffbakjfacaaDoor
def kindB (k : Int) : Bool := inB k 1 11
def takenK (k : Int) : Int := if k = 3 then 0 else if k = 4 ∨ k = 5 ∨ k = 8 ∨ k = 9 then 2 else if k = 10 ∨ k = 11 then 4 else 1
def madeK (k : Int) : Int := if k = 8 ∨ k = 9 then 2 else if k = 10 ∨ k = 11 then 4 else 1
def takenOf (k : Int) : Int := if kindB k then takenK k else -1
def madeOf (k : Int) : Int := if kindB k then madeK k else -1
theorem takenK_bd (k : Int) : 0 ≤ takenK k ∧ takenK k ≤ 4 := by unfold takenK; split <;> (try split) <;> (try split) <;> omega
theorem madeK_bd (k : Int) : 1 ≤ madeK k ∧ madeK k ≤ 4 := by unfold madeK; split <;> (try split) <;> omega
theorem takenOf_bd (k : Int) : -1 ≤ takenOf k ∧ takenOf k ≤ 4 := by
  unfold takenOf
  split
  · have := takenK_bd k; omega
  · omega
theorem madeOf_bd (k : Int) : -1 ≤ madeOf k ∧ madeOf k ≤ 4 := by
  unfold madeOf
  split
  · have := madeK_bd k; omega
  · omega
def sumF (f : Int → Int) : List Int → Int
  | [] => 0
  | x :: xs => f x + sumF f xs
theorem sumF_append (f : Int → Int) : ∀ xs ys, sumF f (xs ++ ys) = sumF f xs + sumF f ys
  | [], ys => by simp [sumF]
  | x :: xs, ys => by simp only [List.cons_append, sumF, sumF_append f xs ys]; omega
theorem sumF_take (f : Int → Int) {xs : List Int} {j : Nat} (h : j < xs.length) : sumF f (xs.take (j + 1)) = sumF f (xs.take j) + f xs[j] := by
  rw [List.take_succ_eq_append_getElem h, sumF_append]; simp [sumF]
theorem sumF_bd (f : Int → Int) (lo hi : Int) (hlo : lo ≤ 0) (hf : ∀ x, lo ≤ f x ∧ f x ≤ hi) : ∀ xs : List Int, lo * xs.length ≤ sumF f xs ∧ sumF f xs ≤ hi * xs.length
  | [] => by simp [sumF]
  | x :: xs => by
    have h1 := sumF_bd f lo hi hlo hf xs
    have h2 := hf x
    simp only [sumF, List.length_cons, Int.natCast_add, Int.natCast_one, Int.mul_add, Int.mul_one]
    omega
theorem sumF_congr {f g : Int → Int} : ∀ {xs : List Int}, (∀ x ∈ xs, f x = g x) → sumF f xs = sumF g xs
  | [], _ => rfl
  | x :: xs, h => by simp only [sumF]; rw [h x (by simp), sumF_congr (fun y hy => h y (by simp [hy]))]
def stB (xs : List Int) : Bool := xs.all kindB && decide (xs.length ≤ 16)
theorem stB_len {xs : List Int} (h : stB xs = true) : xs.length ≤ 16 := by
  unfold stB at h; rw [Bool.and_eq_true] at h; exact of_decide_eq_true h.2
theorem stB_kind {xs : List Int} (h : stB xs = true) : ∀ x ∈ xs, kindB x = true := by
  unfold stB at h; rw [Bool.and_eq_true] at h; exact List.all_eq_true.1 h.1
theorem takenOf_ok {k : Int} (h : kindB k = true) : takenOf k = takenK k := if_pos h
theorem madeOf_ok {k : Int} (h : kindB k = true) : madeOf k = madeK k := if_pos h
def dirP (d : Int) : Bool := decide (d = 1 ∨ d = -1)
def carP (c : Int) : Bool := inB c 1 4
def rowB (d c : Int) (xs : List Int) : Bool := dirP d && carP c && stB xs
def laidB (xs : List Int) : Bool := inB (sumF takenK xs) 1 8 && inB (sumF madeK xs) 1 8
def rowCodeM (d c : Int) (xs : List Int) : Int := if rowB d c xs then (if laidB xs then 0 else 10) else 1
theorem rowCode_bad {d c : Int} {xs : List Int} (h : rowB d c xs = false) : rowCodeM d c xs = 1 := by unfold rowCodeM; rw [h]; rfl
theorem rowCode_unlaid {d c : Int} {xs : List Int} (h : rowB d c xs = true) (h2 : laidB xs = false) : rowCodeM d c xs = 10 := by unfold rowCodeM; rw [h, h2]; rfl
theorem rowCode_ok {d c : Int} {xs : List Int} (h : rowB d c xs = true) (h2 : laidB xs = true) : rowCodeM d c xs = 0 := by unfold rowCodeM; rw [h, h2]; rfl
/-- a row that is laid out -/
structure LaidRow (d c : Int) (xs : List Int) : Prop where
  dir : d = 1 ∨ d = -1
  car : 1 ≤ c ∧ c ≤ 4
  len : xs.length ≤ 16
  kind : ∀ x ∈ xs, kindB x = true
  taken : 1 ≤ sumF takenK xs ∧ sumF takenK xs ≤ 8
  made : 1 ≤ sumF madeK xs ∧ sumF madeK xs ≤ 8
theorem rowB_dir {d c : Int} {xs : List Int} (h : rowB d c xs = true) : (d = 1 ∨ d = -1) ∧ (1 ≤ c ∧ c ≤ 4) ∧ stB xs = true := by
  unfold rowB dirP carP inB at h
  simp only [Bool.and_eq_true, decide_eq_true_eq] at h
  exact ⟨h.1.1, h.1.2, h.2⟩
theorem laid_of {d c : Int} {xs : List Int} (h : rowCodeM d c xs = 0) : LaidRow d c xs := by
  unfold rowCodeM at h
  split at h
  · rename_i h1
    split at h
    · rename_i h2
      obtain ⟨a, b, e⟩ := rowB_dir h1
      unfold laidB inB at h2
      simp only [Bool.and_eq_true, decide_eq_true_eq] at h2
      exact ⟨a, b, stB_len e, stB_kind e, h2.1, h2.2⟩
    · omega
  · omega
/-- n numbers from a on -/
def countM (a n : Int) : List Int := (List.range n.toNat).map fun i : Nat => a + i
theorem countM_length (a n : Int) : (countM a n).length = n.toNat := by simp [countM]
theorem countM_get (a n : Int) (j : Nat) (h : j < (countM a n).length) : (countM a n)[j] = a + j := by simp [countM]
/-- for each stitch as many numbers as f says, from a on -/
def listsM (f : Int → Int) : Int → List Int → List (List Int)
  | _, [] => []
  | a, k :: ks => countM a (f k) :: listsM f (a + f k) ks
theorem listsM_length (f : Int → Int) : ∀ a xs, (listsM f a xs).length = xs.length
  | _, [] => rfl
  | a, k :: ks => by simp [listsM, listsM_length f (a + f k) ks]
theorem listsM_append (f : Int → Int) : ∀ a xs ys, listsM f a (xs ++ ys) = listsM f a xs ++ listsM f (a + sumF f xs) ys
  | a, [], ys => by simp [listsM, sumF]
  | a, k :: ks, ys => by simp only [List.cons_append, listsM, listsM_append f (a + f k) ks ys, sumF]; rw [Int.add_assoc]
theorem listsM_take (f : Int → Int) (a : Int) {xs : List Int} {j : Nat} (h : j < xs.length) :
    listsM f a (xs.take (j + 1)) = listsM f a (xs.take j) ++ [countM (a + sumF f (xs.take j)) (f xs[j])] := by
  rw [List.take_succ_eq_append_getElem h, listsM_append]; simp [listsM]
theorem listsM_get (f : Int → Int) : ∀ (a : Int) (xs : List Int) (j : Nat) (h : j < xs.length), (listsM f a xs)[j]'(by rw [listsM_length]; exact h) = countM (a + sumF f (xs.take j)) (f xs[j])
  | a, [], j, h => by simp at h
  | a, k :: ks, 0, h => by simp [listsM, sumF]
  | a, k :: ks, j + 1, h => by
    have := listsM_get f (a + f k) ks j (by simpa using h)
    simp only [listsM, List.getElem_cons_succ, List.take_succ_cons, sumF]
    rw [this, Int.add_assoc]
end Go.Proofs.YtgdcffbakjfacaaDoor
