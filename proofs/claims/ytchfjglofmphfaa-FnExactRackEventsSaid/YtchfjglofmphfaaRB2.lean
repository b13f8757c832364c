/- The laws' own copies of slices of records, and their sizes. No condition but room. Rows of stitches as plain data: the columns that stitches take and make; lists of numbers one after the other. No condition. Contracts of small tests on numbers: carriers, directions, places, kinds of stitches. No condition. The moves of one column, at most three needles each. Condition: needles. How columns are moved: the reference's and the program's plans. No condition. Kinds of stitches and lists of them: the program's and the reference's tests and sums. No condition. Functions of the library on slices of numbers with a test; the program's test of a list of stitches; sums over lists. No condition. -/
import Derived.Test.YtchfjglofmphfaaRB1
import Derived.Deep.RegionHeld3
namespace Go.Proofs.Ytchfjglofmphfaa
open Go.ChangeShapes Go.WideShapes Go.ChangeAt Go.RowKit
/-- in the middle of copying: all cells of the row are there; the first ones bear what they should -/
def Copying (w : World) (b m n j : Nat) (cs : List Value) : Prop :=
  ∀ t, t < n * m → (∃ u, w.cell? ⟨b, t, none⟩ = some u) ∧ w.frozen? ⟨b, t, none⟩ = false ∧ (t < j * m → w.cell? ⟨b, t, none⟩ = cs[t]?)
theorem Copying.cell {w : World} {b m n j : Nat} {cs : List Value} (h : Copying w b m n j cs) (hj : j < n) (i : Nat) (hi : i < m) :
    ∃ u, w.cell? ⟨b, j * m + i, none⟩ = some u ∧ w.frozen? ⟨b, j * m + i, none⟩ = false := by
  have hlt : j * m + i < n * m := by
    have : (j + 1) * m ≤ n * m := Nat.mul_le_mul_right m hj
    rw [Nat.add_mul] at this
    omega
  obtain ⟨⟨u, h1⟩, h2, _⟩ := h (j * m + i) hlt
  exact ⟨u, h1, h2⟩
theorem Copying.next {w : World} {b m n j : Nat} {cs : List Value} (h : Copying w b m n j cs) (hj : j < n) {vs : List Value} (hl : vs.length = m) (hv : ∀ i (hi : i < vs.length), cs[j * m + i]? = some vs[i]) :
    Copying (w.setCells b (j * m) vs) b m n (j + 1) cs := by
  intro t ht
  have hfr := (h t ht).2.1
  refine ⟨?_, by rw [World.frozen?_setCells]; exact hfr, fun hlt => ?_⟩
  · by_cases hin : j * m ≤ t ∧ t < (j + 1) * m
    · rw [Nat.add_mul] at hin
      have := World.cell?_setCells_in b vs (j * m) w (fun i hi => by
        obtain ⟨u, hu, _⟩ := h.cell hj i (by omega)
        simp [hu]) (t - j * m) (by omega)
      rw [show j * m + (t - j * m) = t by omega] at this
      exact ⟨_, this⟩
    · rw [Nat.add_mul] at hin
      rw [World.cell?_setCells_out b vs _ w _ (fun _ _ => by simp only []; omega)]
      exact (h t ht).1
  · by_cases hin : j * m ≤ t
    · rw [Nat.add_mul] at hlt
      have := World.cell?_setCells_in b vs (j * m) w (fun i hi => by
        obtain ⟨u, hu, _⟩ := h.cell hj i (by omega)
        simp [hu]) (t - j * m) (by omega)
      rw [show j * m + (t - j * m) = t by omega] at this
      rw [this]
      have h2 := hv (t - j * m) (by omega)
      rw [show j * m + (t - j * m) = t by omega] at h2
      rw [h2]
    · rw [World.cell?_setCells_out b vs _ w _ (fun _ _ => by simp only []; omega)]
      exact (h t ht).2.2 (by omega)
theorem Copying.up {w w' : World} {b m n j : Nat} {cs : List Value} (h : Copying w b m n j cs) (g : Up w w') : Copying w' b m n j cs := fun t ht => by
  obtain ⟨⟨u, h1⟩, h2, h3⟩ := h t ht
  have hb : b < w.heap.size := World.block_lt_of_cell? w _ h1
  have hc := g.cell h1 id
  refine ⟨⟨u, hc⟩, ?_, fun hlt => ?_⟩
  · have hk := g.block b hb id
    simpa [World.frozen?, hk] using h2
  · rw [hc, ← h1]; exact h3 hlt
theorem Chg.setCellsNew {S : Nat → Prop} {a : World} {b : Nat} (hb : a.heap.size ≤ b) : ∀ (vs : List Value) (o : Nat) {w : World}, Chg S a w → Chg S a (w.setCells b o vs)
  | [], _, _, h => h
  | v :: r, o, _, h => Chg.setCellsNew hb r (o + 1) (h.setCell (.inr hb) v)
theorem Copying.done {w : World} {S : Nat → Prop} {b m n : Nat} {cs : List Value} (h : Copying w b m n n cs) (hS : S b) (hb : b < w.heap.size) (hl : cs.length = n * m) (hm : n ≤ 9223372036854775807) :
    Raw w S m (.slice (some ⟨b, 0, none⟩) n n) n cs :=
  ⟨hl, _, n, rfl, Nat.le_refl _, hm, fun _ => ⟨b, 0, rfl, hS, hb, fun t ht => by
    rw [Nat.zero_add]
    have := h t (by omega)
    exact ⟨(this.2.2 (by omega)).trans (List.getElem?_eq_getElem ht), this.2.1⟩⟩, by simp⟩
theorem Copying.start (w : World) (m n : Nat) (cs : List Value) (arr : Array Value) (e : TypeId) (hz : arr.size = n * m) : Copying (w.alloc (.cells arr e)) w.heap.size m n 0 cs := fun t ht =>
  ⟨⟨arr[t]'(by omega), by rw [cell_new]; exact Array.getElem?_eq_getElem (by omega)⟩, frozen_new _ _ _ _, fun h0 => by omega⟩
end Go.Proofs.Ytchfjglofmphfaa
namespace Go.Proofs.Ytchfjglofmphfaa
def kindB (k : Int) : Bool := inB k 1 11
def takenK (k : Int) : Int := if k = 3 then 0 else if k = 4 ∨ k = 5 ∨ k = 8 ∨ k = 9 then 2 else if k = 10 ∨ k = 11 then 4 else 1
def madeK (k : Int) : Int := if k = 8 ∨ k = 9 then 2 else if k = 10 ∨ k = 11 then 4 else 1
def takenOf (k : Int) : Int := if kindB k then takenK k else -1
def madeOf (k : Int) : Int := if kindB k then madeK k else -1
theorem takenK_bd (k : Int) : 0 ≤ takenK k ∧ takenK k ≤ 4 := by unfold takenK; split <;> (try split) <;> (try split) <;> omega
theorem madeK_bd (k : Int) : 1 ≤ madeK k ∧ madeK k ≤ 4 := by unfold madeK; split <;> (try split) <;> omega
theorem takenOf_bd (k : Int) : -1 ≤ takenOf k ∧ takenOf k ≤ 4 := by
  unfold takenOf
  split
  · have := takenK_bd k; omega
  · omega
theorem madeOf_bd (k : Int) : -1 ≤ madeOf k ∧ madeOf k ≤ 4 := by
  unfold madeOf
  split
  · have := madeK_bd k; omega
  · omega
def sumF (f : Int → Int) : List Int → Int
  | [] => 0
  | x :: xs => f x + sumF f xs
theorem sumF_append (f : Int → Int) : ∀ xs ys, sumF f (xs ++ ys) = sumF f xs + sumF f ys
  | [], ys => by simp [sumF]
  | x :: xs, ys => by simp only [List.cons_append, sumF, sumF_append f xs ys]; omega
theorem sumF_take (f : Int → Int) {xs : List Int} {j : Nat} (h : j < xs.length) : sumF f (xs.take (j + 1)) = sumF f (xs.take j) + f xs[j] := by
  rw [List.take_succ_eq_append_getElem h, sumF_append]; simp [sumF]
theorem sumF_bd (f : Int → Int) (lo hi : Int) (hlo : lo ≤ 0) (hf : ∀ x, lo ≤ f x ∧ f x ≤ hi) : ∀ xs : List Int, lo * xs.length ≤ sumF f xs ∧ sumF f xs ≤ hi * xs.length
  | [] => by simp [sumF]
  | x :: xs => by
    have h1 := sumF_bd f lo hi hlo hf xs
    have h2 := hf x
    simp only [sumF, List.length_cons, Int.natCast_add, Int.natCast_one, Int.mul_add, Int.mul_one]
    omega
theorem sumF_congr {f g : Int → Int} : ∀ {xs : List Int}, (∀ x ∈ xs, f x = g x) → sumF f xs = sumF g xs
  | [], _ => rfl
  | x :: xs, h => by simp only [sumF]; rw [h x (by simp), sumF_congr (fun y hy => h y (by simp [hy]))]
def stB (xs : List Int) : Bool := xs.all kindB && decide (xs.length ≤ 16)
theorem stB_len {xs : List Int} (h : stB xs = true) : xs.length ≤ 16 := by
  unfold stB at h; rw [Bool.and_eq_true] at h; exact of_decide_eq_true h.2
theorem stB_kind {xs : List Int} (h : stB xs = true) : ∀ x ∈ xs, kindB x = true := by
  unfold stB at h; rw [Bool.and_eq_true] at h; exact List.all_eq_true.1 h.1
theorem takenOf_ok {k : Int} (h : kindB k = true) : takenOf k = takenK k := if_pos h
theorem madeOf_ok {k : Int} (h : kindB k = true) : madeOf k = madeK k := if_pos h
def dirP (d : Int) : Bool := decide (d = 1 ∨ d = -1)
def carP (c : Int) : Bool := inB c 1 4
def rowB (d c : Int) (xs : List Int) : Bool := dirP d && carP c && stB xs
def laidB (xs : List Int) : Bool := inB (sumF takenK xs) 1 8 && inB (sumF madeK xs) 1 8
def rowCodeM (d c : Int) (xs : List Int) : Int := if rowB d c xs then (if laidB xs then 0 else 10) else 1
theorem rowCode_bad {d c : Int} {xs : List Int} (h : rowB d c xs = false) : rowCodeM d c xs = 1 := by unfold rowCodeM; rw [h]; rfl
theorem rowCode_unlaid {d c : Int} {xs : List Int} (h : rowB d c xs = true) (h2 : laidB xs = false) : rowCodeM d c xs = 10 := by unfold rowCodeM; rw [h, h2]; rfl
theorem rowCode_ok {d c : Int} {xs : List Int} (h : rowB d c xs = true) (h2 : laidB xs = true) : rowCodeM d c xs = 0 := by unfold rowCodeM; rw [h, h2]; rfl
/-- a row that is laid out -/
structure LaidRow (d c : Int) (xs : List Int) : Prop where
  dir : d = 1 ∨ d = -1
  car : 1 ≤ c ∧ c ≤ 4
  len : xs.length ≤ 16
  kind : ∀ x ∈ xs, kindB x = true
  taken : 1 ≤ sumF takenK xs ∧ sumF takenK xs ≤ 8
  made : 1 ≤ sumF madeK xs ∧ sumF madeK xs ≤ 8
theorem rowB_dir {d c : Int} {xs : List Int} (h : rowB d c xs = true) : (d = 1 ∨ d = -1) ∧ (1 ≤ c ∧ c ≤ 4) ∧ stB xs = true := by
  unfold rowB dirP carP inB at h
  simp only [Bool.and_eq_true, decide_eq_true_eq] at h
  exact ⟨h.1.1, h.1.2, h.2⟩
theorem laid_of {d c : Int} {xs : List Int} (h : rowCodeM d c xs = 0) : LaidRow d c xs := by
  unfold rowCodeM at h
  split at h
  · rename_i h1
    split at h
    · rename_i h2
      obtain ⟨a, b, e⟩ := rowB_dir h1
      unfold laidB inB at h2
      simp only [Bool.and_eq_true, decide_eq_true_eq] at h2
      exact ⟨a, b, stB_len e, stB_kind e, h2.1, h2.2⟩
    · omega
  · omega
/-- n numbers from a on -/
def countM (a n : Int) : List Int := (List.range n.toNat).map fun i : Nat => a + i
theorem countM_length (a n : Int) : (countM a n).length = n.toNat := by simp [countM]
theorem countM_get (a n : Int) (j : Nat) (h : j < (countM a n).length) : (countM a n)[j] = a + j := by simp [countM]
/-- for each stitch as many numbers as f says, from a on -/
def listsM (f : Int → Int) : Int → List Int → List (List Int)
  | _, [] => []
  | a, k :: ks => countM a (f k) :: listsM f (a + f k) ks
theorem listsM_length (f : Int → Int) : ∀ a xs, (listsM f a xs).length = xs.length
  | _, [] => rfl
  | a, k :: ks => by simp [listsM, listsM_length f (a + f k) ks]
theorem listsM_append (f : Int → Int) : ∀ a xs ys, listsM f a (xs ++ ys) = listsM f a xs ++ listsM f (a + sumF f xs) ys
  | a, [], ys => by simp [listsM, sumF]
  | a, k :: ks, ys => by simp only [List.cons_append, listsM, listsM_append f (a + f k) ks ys, sumF]; rw [Int.add_assoc]
theorem listsM_take (f : Int → Int) (a : Int) {xs : List Int} {j : Nat} (h : j < xs.length) :
    listsM f a (xs.take (j + 1)) = listsM f a (xs.take j) ++ [countM (a + sumF f (xs.take j)) (f xs[j])] := by
  rw [List.take_succ_eq_append_getElem h, listsM_append]; simp [listsM]
theorem listsM_get (f : Int → Int) : ∀ (a : Int) (xs : List Int) (j : Nat) (h : j < xs.length), (listsM f a xs)[j]'(by rw [listsM_length]; exact h) = countM (a + sumF f (xs.take j)) (f xs[j])
  | a, [], j, h => by simp at h
  | a, k :: ks, 0, h => by simp [listsM, sumF]
  | a, k :: ks, j + 1, h => by
    have := listsM_get f (a + f k) ks j (by simpa using h)
    simp only [listsM, List.getElem_cons_succ, List.take_succ_cons, sumF]
    rw [this, Int.add_assoc]
end Go.Proofs.Ytchfjglofmphfaa
namespace Go.Proofs.Ytchfjglofmphfaa
open Go.ChangeShapes Go.WideShapes Go.ChangeAt Go.RowKit
theorem isCarrier_yes (n : Int) (w : World) (h : 1 ≤ n ∧ n ≤ 4) :
    Calls Try.prog 80 #[.int .i64 n] w fun e w' => e = .returned (.bool true) ∧ w = w' := by
  go_enter Try.func80, Try.ntmps80
  go_wp2_with (first | (go_at_call 69; refine (within_yes _ _ _ _ ?_).mono ?_; (omega); rintro e w' ⟨rfl, rfl⟩) | (go_at_call 69; refine (within_no _ _ _ _ ?_).mono ?_; (omega); rintro e w' ⟨rfl, rfl⟩))
  go_ret
  exact ⟨rfl, rfl⟩
theorem isCarrier_no (n : Int) (w : World) (h : n < 1 ∨ 4 < n) :
    Calls Try.prog 80 #[.int .i64 n] w fun e w' => e = .returned (.bool false) ∧ w = w' := by
  go_enter Try.func80, Try.ntmps80
  go_wp2_with (first | (go_at_call 69; refine (within_yes _ _ _ _ ?_).mono ?_; (omega); rintro e w' ⟨rfl, rfl⟩) | (go_at_call 69; refine (within_no _ _ _ _ ?_).mono ?_; (omega); rintro e w' ⟨rfl, rfl⟩))
  go_ret
  exact ⟨rfl, rfl⟩
theorem l07Yarn_yes (n : Int) (w : World) (h : 1 ≤ n ∧ n ≤ 4) :
    Calls Try.prog 119 #[.int .i64 n] w fun e w' => e = .returned (.bool true) ∧ w = w' := by
  go_enter Try.func119, Try.ntmps119
  go_wp2_with (first | (go_at_call 47; refine (l00In_yes _ _ _ _ ?_).mono ?_; (omega); rintro e w' ⟨rfl, rfl⟩) | (go_at_call 47; refine (l00In_no _ _ _ _ ?_).mono ?_; (omega); rintro e w' ⟨rfl, rfl⟩))
  go_ret
  exact ⟨rfl, rfl⟩
theorem l07Yarn_no (n : Int) (w : World) (h : n < 1 ∨ 4 < n) :
    Calls Try.prog 119 #[.int .i64 n] w fun e w' => e = .returned (.bool false) ∧ w = w' := by
  go_enter Try.func119, Try.ntmps119
  go_wp2_with (first | (go_at_call 47; refine (l00In_yes _ _ _ _ ?_).mono ?_; (omega); rintro e w' ⟨rfl, rfl⟩) | (go_at_call 47; refine (l00In_no _ _ _ _ ?_).mono ?_; (omega); rintro e w' ⟨rfl, rfl⟩))
  go_ret
  exact ⟨rfl, rfl⟩
theorem isStitch_yes (n : Int) (w : World) (h : 1 ≤ n ∧ n ≤ 11) :
    Calls Try.prog 241 #[.int .i64 n] w fun e w' => e = .returned (.bool true) ∧ w = w' := by
  go_enter Try.func241, Try.ntmps241
  go_wp2_with (first | (go_at_call 69; refine (within_yes _ _ _ _ ?_).mono ?_; (omega); rintro e w' ⟨rfl, rfl⟩) | (go_at_call 69; refine (within_no _ _ _ _ ?_).mono ?_; (omega); rintro e w' ⟨rfl, rfl⟩))
  go_ret
  exact ⟨rfl, rfl⟩
theorem isStitch_no (n : Int) (w : World) (h : n < 1 ∨ 11 < n) :
    Calls Try.prog 241 #[.int .i64 n] w fun e w' => e = .returned (.bool false) ∧ w = w' := by
  go_enter Try.func241, Try.ntmps241
  go_wp2_with (first | (go_at_call 69; refine (within_yes _ _ _ _ ?_).mono ?_; (omega); rintro e w' ⟨rfl, rfl⟩) | (go_at_call 69; refine (within_no _ _ _ _ ?_).mono ?_; (omega); rintro e w' ⟨rfl, rfl⟩))
  go_ret
  exact ⟨rfl, rfl⟩
theorem l14Kind_yes (n : Int) (w : World) (h : 1 ≤ n ∧ n ≤ 11) :
    Calls Try.prog 237 #[.int .i64 n] w fun e w' => e = .returned (.bool true) ∧ w = w' := by
  go_enter Try.func237, Try.ntmps237
  go_wp2_with (first | (go_at_call 47; refine (l00In_yes _ _ _ _ ?_).mono ?_; (omega); rintro e w' ⟨rfl, rfl⟩) | (go_at_call 47; refine (l00In_no _ _ _ _ ?_).mono ?_; (omega); rintro e w' ⟨rfl, rfl⟩))
  go_ret
  exact ⟨rfl, rfl⟩
theorem l14Kind_no (n : Int) (w : World) (h : n < 1 ∨ 11 < n) :
    Calls Try.prog 237 #[.int .i64 n] w fun e w' => e = .returned (.bool false) ∧ w = w' := by
  go_enter Try.func237, Try.ntmps237
  go_wp2_with (first | (go_at_call 47; refine (l00In_yes _ _ _ _ ?_).mono ?_; (omega); rintro e w' ⟨rfl, rfl⟩) | (go_at_call 47; refine (l00In_no _ _ _ _ ?_).mono ?_; (omega); rintro e w' ⟨rfl, rfl⟩))
  go_ret
  exact ⟨rfl, rfl⟩
theorem l07Dir_yes (n : Int) (w : World) (h : n = 1 ∨ n = -1) :
    Calls Try.prog 159 #[.int .i64 n] w fun e w' => e = .returned (.bool true) ∧ w = w' := by
  rcases h with rfl | rfl
  all_goals
    go_enter Try.func159, Try.ntmps159
    go_wp2
    go_ret
    exact ⟨rfl, rfl⟩
theorem l07Dir_no (n : Int) (w : World) (h : n ≠ 1 ∧ n ≠ -1) :
    Calls Try.prog 159 #[.int .i64 n] w fun e w' => e = .returned (.bool false) ∧ w = w' := by
  have h1 : (n == 1) = false := by simpa using h.1
  have h2 : (n == -1) = false := by simpa using h.2
  clear h
  go_enter Try.func159, Try.ntmps159
  go_wp2
  go_ret
  exact ⟨rfl, rfl⟩
theorem isDirection_yes (n : Int) (w : World) (h : n = 1 ∨ n = -1) :
    Calls Try.prog 165 #[.int .i64 n] w fun e w' => e = .returned (.bool true) ∧ w = w' := by
  rcases h with rfl | rfl
  all_goals
    go_enter Try.func165, Try.ntmps165
    go_wp2
    go_ret
    exact ⟨rfl, rfl⟩
theorem isDirection_no (n : Int) (w : World) (h : n ≠ 1 ∧ n ≠ -1) :
    Calls Try.prog 165 #[.int .i64 n] w fun e w' => e = .returned (.bool false) ∧ w = w' := by
  have h1 : (n == 1) = false := by simpa using h.1
  have h2 : (n == -1) = false := by simpa using h.2
  clear h
  go_enter Try.func165, Try.ntmps165
  go_wp2
  go_ret
  exact ⟨rfl, rfl⟩
end Go.Proofs.Ytchfjglofmphfaa
namespace Go.Proofs.Ytchfjglofmphfaa
open Go.ChangeShapes Go.WideShapes Go.ChangeAt Go.RowKit
def nextOf (f t : Int) : Int := if 3 < t - f then f + 3 else if t - f < -3 then f - 3 else t
def stepsF : Nat → Int → Int → List MoveM
  | 0, _, _ => []
  | n + 1, f, t => if f = t then [] else ⟨f, nextOf f t⟩ :: stepsF n (nextOf f t) t
def stepsM (f t : Int) : List MoveM := stepsF 24 f t
theorem stepsF_done (n : Nat) (t : Int) : stepsF n t t = [] := by cases n <;> simp [stepsF]
theorem stepsF_go {n : Nat} {f t : Int} (h : f ≠ t) : stepsF (n + 1) f t = ⟨f, nextOf f t⟩ :: stepsF n (nextOf f t) t := by simp [stepsF, h]
theorem nextOf_in {f t : Int} (hf : 0 ≤ f ∧ f ≤ 23) (ht : 0 ≤ t ∧ t ≤ 23) : 0 ≤ nextOf f t ∧ nextOf f t ≤ 23 := by
  unfold nextOf; split <;> (try split) <;> omega
theorem nextOf_near {n : Nat} {f t : Int} (h1 : t - f ≤ n + 1 ∧ f - t ≤ n + 1) : t - nextOf f t ≤ n ∧ nextOf f t - t ≤ n := by
  unfold nextOf; split <;> (try split) <;> omega
theorem stepsF_length : ∀ (n : Nat) (f t : Int), (stepsF n f t).length ≤ n
  | 0, _, _ => by simp [stepsF]
  | n + 1, f, t => by
    unfold stepsF
    split
    · simp
    · have := stepsF_length n (nextOf f t) t
      simp
      omega
set_option maxRecDepth 100000 in
set_option maxHeartbeats 4000000 in
theorem steps_any (w : World) (base : Nat) (v : Value) (xs : List MoveM) (f t : Int) (hf : 0 ≤ f ∧ f ≤ 23) (ht : 0 ≤ t ∧ t ≤ 23) (hown : OwnMoves w base v xs) (hb : base ≤ w.heap.size) (hl : xs.length ≤ 1000000) :
    Calls Try.prog 83 #[v, .int .i64 f, .int .i64 t] w fun e w' => ∃ v', e = .returned v' ∧ OwnMoves w' base v' (xs ++ stepsM f t) ∧ Chg (fun k => base ≤ k) w w' := by
  have HO0 := Lib.hid hown
  have HL := Lib.hid hl
  clear hown hl
  go_enter Try.func83, Try.ntmps83
  go_wp2
  go_loopw [0, 1, 7] (fun v q _ wr => ∃ (n : Nat) (g : Int) (ys : List MoveM), q = .int .i64 g ∧ 0 ≤ g ∧ g ≤ 23 ∧ n ≤ 24 ∧ t - g ≤ n ∧ g - t ≤ n ∧ Hid (ys ++ stepsF n g t = stepsM f t) ∧ Hid (ys.length + n ≤ 24) ∧ Hid (OwnMoves wr base v (xs ++ ys)) ∧ Hid (Chg (fun k => base ≤ k) w wr)) (fun _ q _ _ => (t - intOf q).natAbs)
  case atStart => exact ⟨24, f, [], rfl, hf.1, hf.2, by omega, by omega, by omega, rfl, by simp [Hid], by simpa [Hid] using HO0, Chg.refl _ _⟩
  case round =>
    obtain ⟨n, g, ys, rfl, hg0, hg1, hn, hd1, hd2, he, hyl, ho, hg⟩ := hrel
    by_cases hgt : g = t
    · subst hgt
      have hz : (g != g) = false := by simp
      go_wp2
      go_ret
      refine ⟨_, rfl, ?_, hg.out⟩
      have := he.out
      rw [stepsF_done, List.append_nil] at this
      rw [← this]
      exact ho.out
    · have hz : (g != t) = true := by simpa using hgt
      obtain ⟨n, rfl⟩ : ∃ m, n = m + 1 := ⟨n - 1, by omega⟩
      have HE := Lib.hid ((stepsF_go (n := n) hgt) ▸ he.out)
      have hnear := nextOf_near (n := n) (f := g) (t := t) ⟨by omega, by omega⟩
      have hin := nextOf_in ⟨hg0, hg1⟩ ht
      have hsz := hg.out.size
      have hc : 3 < t - g ∨ (0 < t - g ∧ t - g ≤ 3) ∨ (-3 < t - g ∧ t - g < 0) ∨ t - g ≤ -3 := by omega
      have HLL := Lib.hid (show (xs ++ ys).length ≤ 1099511627775 by rw [List.length_append]; have := HL.out; have := hyl.out; omega)
      have hyl' := hyl.out
      have HYL := Lib.hid (show ys.length + 1 + n ≤ 24 by omega)
      clear hyl hyl' he
      have HG := Lib.hid hgt
      clear hgt
      rcases hc with hc | ⟨hc, hc2⟩ | ⟨hc, hc2⟩ | hc
      · have hnx : nextOf g t = g + 3 := by unfold nextOf; split <;> (try split) <;> omega
        rw [hnx] at hnear hin HE
        clear hnx
        have HY := Lib.hid (show (MoveM.mk g (g + 3)).ok by unfold MoveM.ok I64; simp only []; omega)
        have HX := Lib.hid (show (g + 3 : Int) = g + 3 by omega)
        go_wp2_with (first | (at_builtin; refine wp_append1Moves rfl _ _ rfl base _ (xs ++ ys) rfl (ho.out.alloc _) wr.heap.size (MoveM.mk g (g + 3)) rfl (heap_new_at rfl) HY.out HLL.out ?_ ?_; (first | omega | (simp; omega)); intro v' w3 ho1 _ hg1; have HO := Lib.hid ho1; have HG1 := Lib.hid hg1; clear ho1 hg1))
        go_roundw
        case rel =>
          refine ⟨n, _, ys ++ [MoveM.mk g (g + 3)], rfl, by omega, by omega, by omega, by omega, by omega, ?_, ?_, ?_, Chg.trans (hg.out.alloc _) HG1.out⟩
          · have := HE.out
            rw [HX.out]
            simpa [Hid] using this
          · have := HYL.out
            simp [Hid]
            omega
          · rw [← List.append_assoc]
            exact HO.out
        case measure => simp [intOf]; omega
      · have hnx : nextOf g t = t := by unfold nextOf; split <;> (try split) <;> omega
        rw [hnx] at hnear hin HE
        clear hnx
        have HY := Lib.hid (show (MoveM.mk g (g + (t - g))).ok by unfold MoveM.ok I64; simp only []; omega)
        have HX := Lib.hid (show (g + (t - g) : Int) = t by omega)
        go_wp2_with (first | (at_builtin; refine wp_append1Moves rfl _ _ rfl base _ (xs ++ ys) rfl (ho.out.alloc _) wr.heap.size (MoveM.mk g (g + (t - g))) rfl (heap_new_at rfl) HY.out HLL.out ?_ ?_; (first | omega | (simp; omega)); intro v' w3 ho1 _ hg1; have HO := Lib.hid ho1; have HG1 := Lib.hid hg1; clear ho1 hg1))
        go_roundw
        case rel =>
          refine ⟨n, _, ys ++ [MoveM.mk g (g + (t - g))], rfl, by omega, by omega, by omega, by omega, by omega, ?_, ?_, ?_, Chg.trans (hg.out.alloc _) HG1.out⟩
          · have := HE.out
            rw [HX.out]
            simpa [Hid] using this
          · have := HYL.out
            simp [Hid]
            omega
          · rw [← List.append_assoc]
            exact HO.out
        case measure => simp [intOf]; omega
      · have hnx : nextOf g t = t := by unfold nextOf; split <;> (try split) <;> omega
        rw [hnx] at hnear hin HE
        clear hnx
        have HY := Lib.hid (show (MoveM.mk g (g + (t - g))).ok by unfold MoveM.ok I64; simp only []; omega)
        have HX := Lib.hid (show (g + (t - g) : Int) = t by omega)
        go_wp2_with (first | (at_builtin; refine wp_append1Moves rfl _ _ rfl base _ (xs ++ ys) rfl (ho.out.alloc _) wr.heap.size (MoveM.mk g (g + (t - g))) rfl (heap_new_at rfl) HY.out HLL.out ?_ ?_; (first | omega | (simp; omega)); intro v' w3 ho1 _ hg1; have HO := Lib.hid ho1; have HG1 := Lib.hid hg1; clear ho1 hg1))
        go_roundw
        case rel =>
          refine ⟨n, _, ys ++ [MoveM.mk g (g + (t - g))], rfl, by omega, by omega, by omega, by omega, by omega, ?_, ?_, ?_, Chg.trans (hg.out.alloc _) HG1.out⟩
          · have := HE.out
            rw [HX.out]
            simpa [Hid] using this
          · have := HYL.out
            simp [Hid]
            omega
          · rw [← List.append_assoc]
            exact HO.out
        case measure => simp [intOf]; omega
      · have hnx : nextOf g t = g - 3 := by unfold nextOf; split <;> (try split) <;> omega
        rw [hnx] at hnear hin HE
        clear hnx
        have HY := Lib.hid (show (MoveM.mk g (g + -3)).ok by unfold MoveM.ok I64; simp only []; omega)
        have HX := Lib.hid (show (g + -3 : Int) = g - 3 by omega)
        go_wp2_with (first | (at_builtin; refine wp_append1Moves rfl _ _ rfl base _ (xs ++ ys) rfl (ho.out.alloc _) wr.heap.size (MoveM.mk g (g + -3)) rfl (heap_new_at rfl) HY.out HLL.out ?_ ?_; (first | omega | (simp; omega)); intro v' w3 ho1 _ hg1; have HO := Lib.hid ho1; have HG1 := Lib.hid hg1; clear ho1 hg1))
        go_roundw
        case rel =>
          refine ⟨n, _, ys ++ [MoveM.mk g (g + -3)], rfl, by omega, by omega, by omega, by omega, by omega, ?_, ?_, ?_, Chg.trans (hg.out.alloc _) HG1.out⟩
          · have := HE.out
            rw [HX.out]
            simpa [Hid] using this
          · have := HYL.out
            simp [Hid]
            omega
          · rw [← List.append_assoc]
            exact HO.out
        case measure => simp [intOf]; omega
theorem l00Min_l (a b : Int) (w : World) (h : a < b) :
    Calls Try.prog 133 #[.int .i64 a, .int .i64 b] w fun e w' => e = .returned (.int .i64 a) ∧ w = w' := by
  go_enter Try.func133, Try.ntmps133
  go_wp2
  go_ret
  exact ⟨rfl, rfl⟩
theorem l00Min_r (a b : Int) (w : World) (h : b ≤ a) :
    Calls Try.prog 133 #[.int .i64 a, .int .i64 b] w fun e w' => e = .returned (.int .i64 b) ∧ w = w' := by
  go_enter Try.func133, Try.ntmps133
  go_wp2
  go_ret
  exact ⟨rfl, rfl⟩
end Go.Proofs.Ytchfjglofmphfaa
namespace Go.Proofs.Ytchfjglofmphfaa
open Go.ChangeShapes Go.WideShapes Go.ChangeAt Go.RowKit
def ix (xs : List Int) (i : Nat) : Int := xs.getD i 0
theorem ix_eq {xs : List Int} {i : Nat} (h : i < xs.length) : ix xs i = xs[i] := by unfold ix; simp [h]
theorem Ints.ix {w : World} {S : Nat → Prop} {A : Option Addr} {c : Nat} {xs : List Int} (h : Ints w S (.slice A xs.length c) xs) {i : Nat} (hi : i < xs.length) :
    ∃ b o, A = some ⟨b, o, none⟩ ∧ b < w.heap.size ∧ ∀ j, j < xs.length → w.cell? ⟨b, o + j, none⟩ = some (.int .i64 (ix xs j)) := by
  obtain ⟨A', c', he, _, _, _, hr, _⟩ := h
  obtain ⟨rfl, rfl⟩ : A = A' ∧ c = c' := by simpa using he
  obtain ⟨b, o, hA, _, hbl, hc⟩ := hr (by omega)
  exact ⟨b, o, hA, hbl, fun j hj => by rw [ix_eq hj]; exact (hc j hj).1⟩
theorem places_in {tw : Bool} {xs : List Int} (h : placesB tw xs = true) {i : Nat} (hi : i < xs.length) : 0 ≤ ix xs i ∧ ix xs i ≤ 23 := by
  obtain ⟨h1, _⟩ := of_decide_eq_true h
  rw [ix_eq hi]
  exact ⟨(h1 i hi hi).1, (h1 i hi hi).2.1⟩
theorem places_short {tw : Bool} {xs : List Int} (h : placesB tw xs = true) : xs.length ≤ 8 := (of_decide_eq_true h).2
/-- no two columns are put together of which the second does not come from the right -/
def groupsTo (xs ys : List Int) (j : Nat) : Prop := ∀ i, i < j → 0 < i → i < ys.length → ¬ (ix ys i = ix ys (i - 1) ∧ ix xs i ≤ ix ys i)
instance (xs ys : List Int) (j : Nat) : Decidable (groupsTo xs ys j) := inferInstanceAs (Decidable (∀ i, i < j → _))
def groupsB (xs ys : List Int) : Bool := decide (groupsTo xs ys ys.length)
theorem groupsTo_succ {xs ys : List Int} {j : Nat} (h : groupsTo xs ys j) (hn : 0 < j → ¬ (ix ys j = ix ys (j - 1) ∧ ix xs j ≤ ix ys j)) : groupsTo xs ys (j + 1) := fun i hi h0 hl => by
  by_cases e : i = j
  · subst e; exact hn h0
  · exact h i (by omega) h0 hl
theorem groupsB_not {xs ys : List Int} {j : Nat} (hj : 0 < j) (hl : j < ys.length) (h : ix ys j = ix ys (j - 1) ∧ ix xs j ≤ ix ys j) : groupsB xs ys = false :=
  decide_eq_false fun hh => hh j hl hj hl h
/-- the moves of the columns that go to the right, from the last column on; of those that go to the left, from the first one on -/
def upAt (xs ys : List Int) (i : Nat) : List MoveM := if ix xs i < ix ys i then stepsM (ix xs i) (ix ys i) else []
def downAt (xs ys : List Int) (i : Nat) : List MoveM := if ix ys i < ix xs i then stepsM (ix xs i) (ix ys i) else []
def upTo (xs ys : List Int) (m : Nat) : List MoveM := (List.range m).flatMap fun r => upAt xs ys (xs.length - 1 - r)
def downTo (xs ys : List Int) (m : Nat) : List MoveM := (List.range m).flatMap fun i => downAt xs ys i
def planM (xs ys : List Int) : List MoveM := upTo xs ys xs.length ++ downTo xs ys xs.length
theorem upTo_succ (xs ys : List Int) (m : Nat) : upTo xs ys (m + 1) = upTo xs ys m ++ upAt xs ys (xs.length - 1 - m) := by simp [upTo, List.range_succ]
theorem downTo_succ (xs ys : List Int) (m : Nat) : downTo xs ys (m + 1) = downTo xs ys m ++ downAt xs ys m := by simp [downTo, List.range_succ]
theorem upAt_len (xs ys : List Int) (i : Nat) : (upAt xs ys i).length ≤ 24 := by
  unfold upAt; split
  · exact stepsF_length _ _ _
  · simp
theorem downAt_len (xs ys : List Int) (i : Nat) : (downAt xs ys i).length ≤ 24 := by
  unfold downAt; split
  · exact stepsF_length _ _ _
  · simp
theorem upTo_len (xs ys : List Int) : ∀ m, (upTo xs ys m).length ≤ 24 * m
  | 0 => by simp [upTo]
  | m + 1 => by
    have h1 := upTo_len xs ys m
    have h2 := upAt_len xs ys (xs.length - 1 - m)
    rw [upTo_succ, List.length_append]
    omega
theorem downTo_len (xs ys : List Int) : ∀ m, (downTo xs ys m).length ≤ 24 * m
  | 0 => by simp [downTo]
  | m + 1 => by
    have h1 := downTo_len xs ys m
    have h2 := downAt_len xs ys m
    rw [downTo_succ, List.length_append]
    omega
set_option maxRecDepth 100000 in
set_option maxHeartbeats 4000000 in
theorem l21Groups_any (w : World) (S T : Nat → Prop) (v u : Value) (xs ys : List Int) (h : Ints w S v xs) (h2 : Ints w T u ys) (hl : xs.length = ys.length) (hs : ys.length ≤ 8) :
    Calls Try.prog 135 #[v, u] w fun e w' => e = .returned (.bool (groupsB xs ys)) ∧ Drawn w w' := by
  obtain ⟨A, c, rfl, hlc, hcm, -⟩ := h.shape
  obtain ⟨A2, c2, rfl, hlc2, hcm2, -⟩ := h2.shape
  have H := Lib.hid h
  have H2 := Lib.hid h2
  clear h h2
  have HLen := Lib.hid hl
  clear hl
  go_enter Try.func135, Try.ntmps135
  go_wp2
  go_loopw [5] (fun i wr => ∃ j : Nat, j ≤ ys.length ∧ i = .int .i64 (j + 1) ∧ Hid (groupsTo xs ys (j + 1)) ∧ Drawn w wr) (fun i _ => ys.length - (intOf i).toNat)
  case atStart => exact ⟨0, by omega, rfl, fun i hi h0 => by omega, Drawn.refl _⟩
  case round =>
    obtain ⟨j, hj, rfl, hp, hd⟩ := hrel
    by_cases hlt : j + 1 < ys.length
    · obtain ⟨b, o, rfl, -, hc⟩ := H.out.ix (i := j + 1) (by rw [HLen.out]; exact hlt)
      obtain ⟨b2, o2, rfl, -, hc2⟩ := H2.out.ix (i := j + 1) hlt
      have f1 := hd.cell (hc (j + 1) (by rw [HLen.out]; exact hlt))
      have f2 := hd.cell (hc2 (j + 1) hlt)
      have f3 := hd.cell (hc2 j (by omega))
      have hxl : ((j : Int) + 1) < xs.length := by rw [HLen.out]; omega
      clear hc hc2
      by_cases he : ix ys (j + 1) = ix ys j
      · have hd1 : (ix ys (j + 1) == ix ys j) = true := by simpa using he
        by_cases hle : ix xs (j + 1) ≤ ix ys (j + 1)
        · have hd2 : decide (ix xs (j + 1) ≤ ix ys (j + 1)) = true := decide_eq_true hle
          have HB := Lib.hid (groupsB_not (xs := xs) (j := j + 1) (by omega) hlt ⟨by simpa using he, hle⟩)
          clear he hle
          go_wp2
          go_quiet (fail)
          go_wp2
          go_ret
          exact ⟨ret_bool HB.out.symm, hd.drewN _⟩
        · have hd2 : decide (ix xs (j + 1) ≤ ix ys (j + 1)) = false := decide_eq_false hle
          have HB := Lib.hid (groupsTo_succ hp.out (fun _ hh => hle hh.2))
          clear he hle
          go_wp2
          go_quiet (fail)
          go_wp2
          go_roundw
          case rel => exact ⟨j + 1, by omega, by go_num, HB, hd.drewN _⟩
          case measure => first | (simp [intOf]; done) | (simp [intOf]; omega)
      · have hd1 : (ix ys (j + 1) == ix ys j) = false := by simpa using he
        have HB := Lib.hid (groupsTo_succ hp.out (fun _ hh => he (by simpa using hh.1)))
        clear he
        go_wp2
        go_quiet (fail)
        go_wp2
        go_roundw
        case rel => exact ⟨j + 1, by omega, by go_num, HB, hd.drewN _⟩
        case measure => first | (simp [intOf]; done) | (simp [intOf]; omega)
    · have HB := Lib.hid (show groupsB xs ys = true from decide_eq_true (fun i hi h0 hl => hp.out i (by omega) h0 hl))
      go_wp2
      go_ret
      exact ⟨ret_bool HB.out.symm, hd⟩
def PlanOk (xs ys : List Int) : Prop := xs.length = ys.length ∧ xs.length ≤ 8 ∧ (∀ i, i < xs.length → 0 ≤ ix xs i ∧ ix xs i ≤ 23) ∧ (∀ i, i < xs.length → 0 ≤ ix ys i ∧ ix ys i ≤ 23)
end Go.Proofs.Ytchfjglofmphfaa
namespace Go.Proofs.Ytchfjglofmphfaa
open Go.ChangeShapes Go.WideShapes Go.ChangeAt Go.RowKit
theorem kindB_cases {k : Int} (h : kindB k = true) : k = 1 ∨ k = 2 ∨ k = 3 ∨ k = 4 ∨ k = 5 ∨ k = 6 ∨ k = 7 ∨ k = 8 ∨ k = 9 ∨ k = 10 ∨ k = 11 := by
  have := of_decide_eq_true h
  omega
theorem isStitch_any (k : Int) (w : World) :
    Calls Try.prog 241 #[.int .i64 k] w fun e w' => e = .returned (.bool (kindB k)) ∧ w = w' := by
  cases h : kindB k with
  | false => exact isStitch_no k w (by have := of_decide_eq_false h; omega)
  | true => exact isStitch_yes k w (of_decide_eq_true h)
theorem l14Kind_any (k : Int) (w : World) :
    Calls Try.prog 237 #[.int .i64 k] w fun e w' => e = .returned (.bool (kindB k)) ∧ w = w' := by
  cases h : kindB k with
  | false => exact l14Kind_no k w (by have := of_decide_eq_false h; omega)
  | true => exact l14Kind_yes k w (of_decide_eq_true h)
set_option maxHeartbeats 4000000 in
theorem ColumnsTaken_any (k : Int) (w : World) :
    Calls Try.prog 225 #[.int .i64 k] w fun e w' => e = .returned (.int .i64 (takenOf k)) ∧ w = w' := by
  cases h : kindB k with
  | false =>
    have hv : takenOf k = -1 := by unfold takenOf; rw [h]; rfl
    rw [hv]
    have H := Lib.hid h
    clear h hv
    go_enter Try.func225, Try.ntmps225
    go_wp2_with fail
    refine (isStitch_any _ _).mono ?_
    rintro e w' ⟨rfl, rfl⟩
    rw [H.out]
    go_wp2
    go_ret
    exact ⟨rfl, rfl⟩
  | true =>
    have hc := kindB_cases h
    have H := Lib.hid h
    clear h
    rcases hc with rfl | rfl | rfl | rfl | rfl | rfl | rfl | rfl | rfl | rfl | rfl
    all_goals
      go_enter Try.func225, Try.ntmps225
      go_wp2_with fail
      refine (isStitch_any _ _).mono ?_
      rintro e w' ⟨rfl, rfl⟩
      rw [H.out]
      go_wp2
      go_ret
      exact ⟨rfl, rfl⟩
set_option maxHeartbeats 4000000 in
theorem sColumnsTaken_any (k : Int) (w : World) :
    Calls Try.prog 219 #[.int .i64 k] w fun e w' => e = .returned (.int .i64 (takenOf k)) ∧ Up w w' := by
  cases h : kindB k with
  | false =>
    have hv : takenOf k = -1 := by unfold takenOf; rw [h]; rfl
    rw [hv]
    have H := Lib.hid h
    clear h hv
    go_enter Try.func219, Try.ntmps219
    go_wp2_with fail
    refine (l14Kind_any _ _).mono ?_
    rintro e w' ⟨rfl, rfl⟩
    rw [H.out]
    go_wp2
    go_ret
    exact ⟨rfl, Chg.refl _ _⟩
  | true =>
    have hc := kindB_cases h
    have H := Lib.hid h
    clear h
    rcases hc with rfl | rfl | rfl | rfl | rfl | rfl | rfl | rfl | rfl | rfl | rfl
    all_goals
      go_enter Try.func219, Try.ntmps219
      go_wp2_with fail
      refine (l14Kind_any _ _).mono ?_
      rintro e w' ⟨rfl, rfl⟩
      rw [H.out]
      go_wp2
      go_ret
      exact ⟨rfl, by repeat (first | exact Chg.refl _ _ | refine Chg.alloc ?_ _)⟩
set_option maxHeartbeats 4000000 in
theorem ColumnsMade_any (k : Int) (w : World) :
    Calls Try.prog 243 #[.int .i64 k] w fun e w' => e = .returned (.int .i64 (madeOf k)) ∧ w = w' := by
  cases h : kindB k with
  | false =>
    have hv : madeOf k = -1 := by unfold madeOf; rw [h]; rfl
    rw [hv]
    have H := Lib.hid h
    clear h hv
    go_enter Try.func243, Try.ntmps243
    go_wp2_with fail
    refine (isStitch_any _ _).mono ?_
    rintro e w' ⟨rfl, rfl⟩
    rw [H.out]
    go_wp2
    go_ret
    exact ⟨rfl, rfl⟩
  | true =>
    have hc := kindB_cases h
    have H := Lib.hid h
    clear h
    rcases hc with rfl | rfl | rfl | rfl | rfl | rfl | rfl | rfl | rfl | rfl | rfl
    all_goals
      go_enter Try.func243, Try.ntmps243
      go_wp2_with fail
      refine (isStitch_any _ _).mono ?_
      rintro e w' ⟨rfl, rfl⟩
      rw [H.out]
      go_wp2
      go_ret
      exact ⟨rfl, rfl⟩
set_option maxHeartbeats 4000000 in
theorem sColumnsMade_any (k : Int) (w : World) :
    Calls Try.prog 220 #[.int .i64 k] w fun e w' => e = .returned (.int .i64 (madeOf k)) ∧ Up w w' := by
  cases h : kindB k with
  | false =>
    have hv : madeOf k = -1 := by unfold madeOf; rw [h]; rfl
    rw [hv]
    have H := Lib.hid h
    clear h hv
    go_enter Try.func220, Try.ntmps220
    go_wp2_with fail
    refine (l14Kind_any _ _).mono ?_
    rintro e w' ⟨rfl, rfl⟩
    rw [H.out]
    go_wp2
    go_ret
    exact ⟨rfl, Chg.refl _ _⟩
  | true =>
    have hc := kindB_cases h
    have H := Lib.hid h
    clear h
    rcases hc with rfl | rfl | rfl | rfl | rfl | rfl | rfl | rfl | rfl | rfl | rfl
    all_goals
      go_enter Try.func220, Try.ntmps220
      go_wp2_with fail
      refine (l14Kind_any _ _).mono ?_
      rintro e w' ⟨rfl, rfl⟩
      rw [H.out]
      go_wp2
      go_ret
      exact ⟨rfl, by repeat (first | exact Chg.refl _ _ | refine Chg.alloc ?_ _)⟩
theorem stB_of {xs : List Int} (h : ∀ i (hi : i < xs.length), kindB xs[i] = true) : stB xs = decide ((xs.length : Int) ≤ 16) := by
  unfold stB
  have : xs.all kindB = true := List.all_eq_true.2 fun x hx => by
    obtain ⟨i, hi, rfl⟩ := List.getElem_of_mem hx
    exact h i hi
  rw [this, Bool.true_and]
  exact decide_eq_decide.2 (by omega)
theorem stB_not {xs : List Int} {i : Nat} (hi : i < xs.length) (h : kindB xs[i] = false) : stB xs = false := by
  unfold stB
  have : xs.all kindB = false := by
    rw [Bool.eq_false_iff]
    intro hh
    rw [List.all_eq_true.1 hh _ (List.getElem_mem hi)] at h
    cases h
  rw [this, Bool.false_and]
set_option maxHeartbeats 1000000 in
theorem l14Ok_any (w : World) (S : Nat → Prop) (v : Value) (xs : List Int) (h : Ints w S v xs) :
    Calls Try.prog 214 #[v] w fun e w' => e = .returned (.bool (stB xs)) ∧ w = w' := by
  obtain ⟨A, c, rfl, hlc, hcm, -⟩ := h.shape
  have H := Lib.hid h
  clear h
  go_enter Try.func214, Try.ntmps214
  go_wp2
  go_loop [3] (fun i => ∃ j : Nat, j ≤ xs.length ∧ i = .int .i64 j ∧ Hid (∀ i (hi : i < xs.length), i < j → kindB xs[i] = true)) (fun i => xs.length - (intOf i).toNat)
  case atStart => exact ⟨0, by omega, rfl, fun i hi h => by omega⟩
  case round =>
    obtain ⟨j, hj, rfl, hp⟩ := hrel
    by_cases hlt : j < xs.length
    · obtain ⟨b, o, rfl, -, hc⟩ := H.out.ix hlt
      have f1 := hc j hlt
      rw [ix_eq hlt] at f1
      clear hc
      cases hk : kindB xs[j] with
      | false =>
        have HB := Lib.hid (stB_not hlt hk)
        have HK := Lib.hid hk
        clear hk
        go_wp2_with fail
        refine (l14Kind_any _ _).mono ?_
        rintro e w' ⟨rfl, rfl⟩
        rw [HK.out]
        go_wp2
        go_ret
        exact ⟨ret_bool HB.out.symm, rfl⟩
      | true =>
        have HK := Lib.hid hk
        clear hk
        go_wp2_with fail
        refine (l14Kind_any _ _).mono ?_
        rintro e w' ⟨rfl, rfl⟩
        rw [HK.out]
        go_wp2
        go_round
        case rel => exact ⟨j + 1, by omega, by go_num, fun i hi h => by
          by_cases e : i = j
          · subst e; exact HK.out
          · exact hp.out i hi (by omega)⟩
        case measure => simp [intOf]; omega
    · have HB := Lib.hid (stB_of (xs := xs) (fun i hi => hp.out i hi (by omega)))
      go_wp2
      go_ret
      exact ⟨ret_bool HB.out.symm, rfl⟩
def badKind (k : Int) : Bool := !kindB k
theorem areStitches1_any (k : Int) (w : World) : Calls Try.prog 240 #[.int .i64 k] w fun e w' => e = .returned (.bool (badKind k)) ∧ w = w' := by
  unfold badKind
  go_enter Try.func240, Try.ntmps240
  go_wp2_with fail
  refine (isStitch_any _ _).mono ?_
  rintro e w' ⟨rfl, rfl⟩
  go_wp2
  go_ret
  exact ⟨rfl, rfl⟩
end Go.Proofs.Ytchfjglofmphfaa
namespace Go.Proofs.Ytchfjglofmphfaa
open Go.ChangeShapes Go.WideShapes Go.ChangeAt Go.RowKit
/-- the place of the first number that answers, or -1 -/
def idxM (p : Int → Bool) (xs : List Int) : Int := match xs.findIdx? p with | some i => (i : Int) | none => -1
theorem idxM_none {p : Int → Bool} {xs : List Int} (h : ∀ i (hi : i < xs.length), p xs[i] = false) : idxM p xs = -1 := by
  unfold idxM
  have : xs.findIdx? p = none := List.findIdx?_eq_none_iff.2 fun x hx => by
    obtain ⟨i, hi, rfl⟩ := List.getElem_of_mem hx
    exact h i hi
  rw [this]
theorem idxM_at {p : Int → Bool} {xs : List Int} {j : Nat} (hj : j < xs.length) (h : p xs[j] = true) (hb : ∀ i (hi : i < xs.length), i < j → p xs[i] = false) : idxM p xs = j := by
  unfold idxM
  have : xs.findIdx? p = some j := List.findIdx?_eq_some_iff_getElem.2 ⟨hj, h, fun i hi => by rw [hb i (by omega) hi]; simp⟩
  rw [this]
theorem idxM_any (p : Int → Bool) (xs : List Int) : decide (idxM p xs ≥ 0) = xs.any p := by
  unfold idxM
  cases hf : xs.findIdx? p with
  | none =>
    have h1 := List.findIdx?_eq_none_iff.1 hf
    have : xs.any p = false := by
      rw [List.any_eq_false]
      intro x hx; rw [h1 x hx]; simp
    rw [this]; rfl
  | some j =>
    obtain ⟨h1, h2, _⟩ := List.findIdx?_eq_some_iff_getElem.1 hf
    have : xs.any p = true := List.any_eq_true.2 ⟨_, List.getElem_mem h1, h2⟩
    rw [this]
    simp
theorem idxM_bd (p : Int → Bool) (xs : List Int) : -1 ≤ idxM p xs ∧ idxM p xs ≤ xs.length := by
  unfold idxM
  cases hf : xs.findIdx? p with
  | none => simp only []; omega
  | some j =>
    obtain ⟨h1, _⟩ := List.findIdx?_eq_some_iff_getElem.1 hf
    simp only []; omega
set_option maxHeartbeats 1000000 in
theorem areStitchesIdx_any (w : World) (S : Nat → Prop) (v : Value) (xs : List Int) (h : Ints w S v xs) :
    Calls Try.prog 173 #[v, .func (.func 240) #[] #[]] w fun e w' => e = .returned (.int .i64 (idxM badKind xs)) ∧ w = w' := by
  obtain ⟨A, c, rfl, hlc, hcm, -⟩ := h.shape
  have H := Lib.hid h
  clear h
  go_enter Try.func173, Try.ntmps173
  go_wp2
  go_loop [5, 8] (fun _ i => ∃ j : Nat, j ≤ xs.length ∧ i = .int .i64 j ∧ Hid (∀ i (hi : i < xs.length), i < j → badKind xs[i] = false)) (fun _ i => xs.length - (intOf i).toNat)
  case atStart => exact ⟨0, by omega, rfl, fun i hi h => by omega⟩
  case round =>
    obtain ⟨j, hj, rfl, hp⟩ := hrel
    by_cases hlt : j < xs.length
    · obtain ⟨b, o, rfl, -, hc⟩ := H.out.ix hlt
      have f1 := hc j hlt
      rw [ix_eq hlt] at f1
      clear hc
      cases hk : badKind xs[j] with
      | true =>
        have HB := Lib.hid (idxM_at hlt hk hp.out)
        have HK := Lib.hid hk
        clear hk
        go_wp2_with fail
        refine (areStitches1_any _ _).mono ?_
        rintro e w' ⟨rfl, rfl⟩
        rw [HK.out]
        go_wp2
        go_ret
        exact ⟨ret_int HB.out.symm, rfl⟩
      | false =>
        have HK := Lib.hid hk
        clear hk
        go_wp2_with fail
        refine (areStitches1_any _ _).mono ?_
        rintro e w' ⟨rfl, rfl⟩
        rw [HK.out]
        go_wp2
        go_round
        case rel => exact ⟨j + 1, by omega, by go_num, fun i hi h => by
          by_cases e : i = j
          · subst e; exact HK.out
          · exact hp.out i hi (by omega)⟩
        case measure => simp [intOf]; omega
    · have HB := Lib.hid (idxM_none (p := badKind) (xs := xs) (fun i hi => hp.out i hi (by omega)))
      go_wp2
      go_ret
      exact ⟨ret_int HB.out.symm, rfl⟩
theorem areStitchesHas_any (w : World) (S : Nat → Prop) (v : Value) (xs : List Int) (h : Ints w S v xs) :
    Calls Try.prog 124 #[v, .func (.func 240) #[] #[]] w fun e w' => e = .returned (.bool (xs.any badKind)) ∧ w = w' := by
  obtain ⟨A, c, rfl, hlc, hcm, -⟩ := h.shape
  have H := Lib.hid h
  have HA := Lib.hid (idxM_any badKind xs)
  have hb := idxM_bd badKind xs
  clear h
  go_enter Try.func124, Try.ntmps124
  go_wp2_with fail
  refine (areStitchesIdx_any _ S _ xs H.out).mono ?_
  rintro e w' ⟨rfl, rfl⟩
  go_wp2
  go_ret
  exact ⟨ret_bool (by rw [← HA.out]), rfl⟩
theorem stB_any (xs : List Int) : stB xs = (decide (xs.length ≤ 16) && !xs.any badKind) := by
  unfold stB
  rw [Bool.and_comm]
  congr 1
  rw [Bool.eq_iff_iff, List.all_eq_true, Bool.not_eq_true', List.any_eq_false]
  simp [badKind]
theorem areStitches_any (w : World) (S : Nat → Prop) (v : Value) (xs : List Int) (h : Ints w S v xs) :
    Calls Try.prog 222 #[v] w fun e w' => e = .returned (.bool (stB xs)) ∧ w = w' := by
  obtain ⟨A, c, rfl, hlc, hcm, -⟩ := h.shape
  have H := Lib.hid h
  clear h
  by_cases hl : xs.length ≤ 16
  · have HS := Lib.hid (show stB xs = !xs.any badKind by rw [stB_any, decide_eq_true hl, Bool.true_and])
    go_enter Try.func222, Try.ntmps222
    go_wp2_with fail
    refine (areStitchesHas_any _ S _ xs H.out).mono ?_
    rintro e w' ⟨rfl, rfl⟩
    go_wp2
    go_ret
    exact ⟨ret_bool HS.out.symm, rfl⟩
  · have HS := Lib.hid (show stB xs = false by rw [stB_any, decide_eq_false hl, Bool.false_and])
    go_enter Try.func222, Try.ntmps222
    go_wp2
    go_ret
    exact ⟨ret_bool HS.out.symm, rfl⟩
set_option maxHeartbeats 1000000 in
theorem sTakenBy_yes (w : World) (S : Nat → Prop) (v : Value) (xs : List Int) (h : Ints w S v xs) (hs : stB xs = true) :
    Calls Try.prog 216 #[v] w fun e w' => e = .returned (.int .i64 (sumF takenK xs)) ∧ Up w w' := by
  obtain ⟨A, c, rfl, hlc, hcm, -⟩ := h.shape
  have H := Lib.hid h
  have HS := Lib.hid hs
  have hl := stB_len hs
  have HK := Lib.hid (stB_kind hs)
  clear h hs
  go_enter Try.func216, Try.ntmps216
  go_wp2_with fail
  refine (l14Ok_any _ S _ xs H.out).mono ?_
  rintro e w' ⟨rfl, rfl⟩
  rw [HS.out]
  go_wp2
  go_loopw [3, 4] (fun n i wr => ∃ j : Nat, j ≤ xs.length ∧ i = .int .i64 j ∧ n = .int .i64 (sumF takenK (xs.take j)) ∧ Hid (Up w wr)) (fun _ i _ => xs.length - (intOf i).toNat)
  case atStart => exact ⟨0, by omega, rfl, rfl, Chg.refl _ _⟩
  case round =>
    obtain ⟨j, hj, rfl, rfl, hg⟩ := hrel
    by_cases hlt : j < xs.length
    · obtain ⟨b, o, rfl, -, hc⟩ := H.out.ix hlt
      have f1 := Chg.cell hg.out (hc j hlt) id
      rw [ix_eq hlt] at f1
      have HT := Lib.hid (sumF_take takenK hlt)
      have HV := Lib.hid (takenOf_ok (HK.out _ (List.getElem_mem hlt)))
      have hb1 := takenK_bd xs[j]
      have hb2 := sumF_bd takenK 0 4 (by omega) (fun x => by have := takenK_bd x; omega) (xs.take j)
      rw [List.length_take, Nat.min_eq_left hj] at hb2
      clear hc
      go_wp2_with fail
      refine (sColumnsTaken_any _ _).mono ?_
      rintro e w1 ⟨rfl, g1⟩
      rw [HV.out]
      have G1 := Lib.hid g1
      clear g1 f1
      go_wp2
      go_roundw
      case rel => exact ⟨j + 1, by omega, by go_num, by rw [HT.out], Chg.trans hg.out G1.out⟩
      case measure => simp [intOf]; omega
    · obtain rfl : j = xs.length := by omega
      have HT := Lib.hid (show sumF takenK (xs.take xs.length) = sumF takenK xs by rw [List.take_length])
      go_wp2
      go_ret
      exact ⟨ret_int HT.out, hg.out⟩
theorem sTakenBy_any (w : World) (S : Nat → Prop) (v : Value) (xs : List Int) (h : Ints w S v xs) :
    Calls Try.prog 216 #[v] w fun e w' => e = .returned (.int .i64 (if stB xs then sumF takenK xs else -1)) ∧ Up w w' := by
  cases hs : stB xs with
  | true => exact sTakenBy_yes w S v xs h hs
  | false =>
    obtain ⟨A, c, rfl, hlc, hcm, -⟩ := h.shape
    have H := Lib.hid h
    have HS := Lib.hid hs
    clear h hs
    go_enter Try.func216, Try.ntmps216
    go_wp2_with fail
    refine (l14Ok_any _ S _ xs H.out).mono ?_
    rintro e w' ⟨rfl, rfl⟩
    rw [HS.out]
    go_wp2
    go_ret
    exact ⟨rfl, Chg.refl _ _⟩
set_option maxHeartbeats 1000000 in
theorem takenBy_yes (w : World) (S : Nat → Prop) (v : Value) (xs : List Int) (h : Ints w S v xs) (hs : stB xs = true) :
    Calls Try.prog 224 #[v] w fun e w' => e = .returned (.int .i64 (sumF takenK xs)) ∧ w = w' := by
  obtain ⟨A, c, rfl, hlc, hcm, -⟩ := h.shape
  have H := Lib.hid h
  have HS := Lib.hid hs
  have hl := stB_len hs
  have HK := Lib.hid (stB_kind hs)
  clear h hs
  go_enter Try.func224, Try.ntmps224
  go_wp2
  go_loop [3, 5, 8] (fun n _ i => ∃ j : Nat, j ≤ xs.length ∧ i = .int .i64 j ∧ n = .int .i64 (sumF takenK (xs.take j))) (fun _ _ i => xs.length - (intOf i).toNat)
  case atStart => exact ⟨0, by omega, rfl, rfl⟩
  case round =>
    obtain ⟨j, hj, rfl, rfl⟩ := hrel
    by_cases hlt : j < xs.length
    · obtain ⟨b, o, rfl, -, hc⟩ := H.out.ix hlt
      have f1 := hc j hlt
      rw [ix_eq hlt] at f1
      have HT := Lib.hid (sumF_take takenK hlt)
      have HV := Lib.hid (takenOf_ok (HK.out _ (List.getElem_mem hlt)))
      have hb1 := takenK_bd xs[j]
      have hb2 := sumF_bd takenK 0 4 (by omega) (fun x => by have := takenK_bd x; omega) (xs.take j)
      rw [List.length_take, Nat.min_eq_left hj] at hb2
      clear hc
      go_wp2_with fail
      refine (ColumnsTaken_any _ _).mono ?_
      rintro e w1 ⟨rfl, rfl⟩
      rw [HV.out]
      go_wp2
      go_round
      case rel => exact ⟨j + 1, by omega, by go_num, by rw [HT.out]⟩
      case measure => simp [intOf]; omega
    · obtain rfl : j = xs.length := by omega
      have HT := Lib.hid (show sumF takenK (xs.take xs.length) = sumF takenK xs by rw [List.take_length])
      go_wp2
      go_ret
      exact ⟨ret_int (by first | rfl | exact HT.out), rfl⟩
end Go.Proofs.Ytchfjglofmphfaa
