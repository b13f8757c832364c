/- The program's operations of a row: the walk. No condition but room. -/
import Derived.Test.YtnjfhpgmogopnaaGreatPG8
namespace Go.Proofs.YtnjfhpgmogopnaaGreat
open Go.ChangeShapes Go.WideShapes Go.ChangeAt Go.RowKit
def preM (xs : List Int) : List OpM := crossL 1 (letL 0 xs) ++ colsOut (ownsL (trL 0 0 xs)) (togL (trL 0 0 xs)) ++ colsOut (onceL (togL (trL 0 0 xs)) (togL (trL 0 0 xs)) (togL (trL 0 0 xs)).length) (onceL (togL (trL 0 0 xs)) (movL (trL 0 0 xs)) (togL (trL 0 0 xs)).length)
theorem colsOut_len (xs ys : List Int) : (colsOut xs ys).length ≤ 1536 := by
  have := planOut_len xs ys
  unfold colsOut
  rw [colsM_len]
  omega
theorem preM_len {xs : List Int} (h : xs.length ≤ 16) : (preM xs).length ≤ 4000 := by
  have h1 := colsOut_len (ownsL (trL 0 0 xs)) (togL (trL 0 0 xs))
  have h2 := colsOut_len (onceL (togL (trL 0 0 xs)) (togL (trL 0 0 xs)) (togL (trL 0 0 xs)).length) (onceL (togL (trL 0 0 xs)) (movL (trL 0 0 xs)) (togL (trL 0 0 xs)).length)
  have h3 := letL_length xs 0
  unfold preM
  rw [List.length_append, List.length_append, crossL_len]
  omega
theorem fold_bd {d car k : Int} (hd : d = 1 ∨ d = -1) : ∀ (cs : List Int) (s : List OpM × Int), (∀ c ∈ cs, 0 ≤ c ∧ c ≤ 7) → (-3 ≤ s.2 ∧ s.2 ≤ 27) → (-3 ≤ (cs.foldl (stepC d car k) s).2 ∧ (cs.foldl (stepC d car k) s).2 ≤ 27) ∧ (cs.foldl (stepC d car k) s).1.length ≤ s.1.length + 4 * cs.length
  | [], s, _, h => by simpa using h
  | c :: cs, s, hc, h => by
    have h1 := hc c List.mem_cons_self
    have h2 := fold_bd (car := car) (k := k) hd cs (stepC d car k s c) (fun x hx => hc x (List.mem_cons_of_mem _ hx))
    rw [List.foldl_cons]
    by_cases h7 : k = 7
    · rw [stepC_skip s h7] at h2 ⊢
      have := h2 h
      simp only [List.length_cons]
      omega
    · rw [stepC_go s h7] at h2 ⊢
      have l1 := carryM_len s.2 (2 * c + 1) d car
      have l2 := stitchM_len k (2 * c + 1) d car
      have := h2 (by simp only []; rcases hd with rfl | rfl <;> omega)
      simp only [List.length_cons, List.length_append] at *
      omega
theorem rowTo_bd {r : RowM} (hr : LaidRow r.d r.c r.xs) (s : List OpM × Int) (h : -3 ≤ s.2 ∧ s.2 ≤ 27) : ∀ t, t ≤ r.xs.length → (-3 ≤ (rowTo r s t).2 ∧ (rowTo r s t).2 ≤ 27) ∧ (rowTo r s t).1.length ≤ s.1.length + 16 * t
  | 0, _ => by simpa [rowTo] using h
  | t + 1, ht => by
    have h1 := rowTo_bd hr s h t (by omega)
    have h2 := fold_bd (car := r.c) (k := ix r.xs (ordI r.d r.xs.length t)) hr.dir (colsOf r (ordI r.d r.xs.length t)) (rowTo r s t) (colsOf_in hr (ordI_lt (by omega))) h1.1
    have h3 := colsOf_length r (ordI r.d r.xs.length t)
    have h4 := madeK_bd (ix r.xs (ordI r.d r.xs.length t))
    unfold rowTo
    omega
theorem fold_pre (d car k : Int) (p : List OpM) : ∀ (cs : List Int) (s : List OpM × Int), cs.foldl (stepC d car k) (p ++ s.1, s.2) = (p ++ (cs.foldl (stepC d car k) s).1, (cs.foldl (stepC d car k) s).2)
  | [], s => rfl
  | c :: cs, s => by
    rw [List.foldl_cons, List.foldl_cons]
    have : stepC d car k (p ++ s.1, s.2) c = (p ++ (stepC d car k s c).1, (stepC d car k s c).2) := by
      unfold stepC
      split
      · rfl
      · simp [List.append_assoc]
    rw [this]
    exact fold_pre d car k p cs _
theorem rowTo_pre (r : RowM) (p : List OpM) (a : Int) : ∀ t, rowTo r (p, a) t = (p ++ (rowTo r ([], a) t).1, (rowTo r ([], a) t).2)
  | 0 => by simp [rowTo]
  | t + 1 => by unfold rowTo; rw [rowTo_pre r p a t, fold_pre]
def stT (r : RowM) (s : List OpM × Int) (t q : Nat) : List OpM × Int := ((colsOf r (ordI r.d r.xs.length t)).take q).foldl (stepC r.d r.c (ix r.xs (ordI r.d r.xs.length t))) (rowTo r s t)
theorem stT_zero (r : RowM) (s : List OpM × Int) (t : Nat) : stT r s t 0 = rowTo r s t := by simp [stT]
theorem stT_all (r : RowM) (s : List OpM × Int) (t : Nat) {j q : Nat} {L : List Int} (hj : ordI r.d r.xs.length t = j) (hL : colsOf r j = L) (h : q = L.length) : stT r s t q = rowTo r s (t + 1) := by
  subst hj hL h
  unfold stT
  rw [List.take_length]
  rfl
theorem stT_skip (r : RowM) (s : List OpM × Int) (t q : Nat) {j : Nat} {L : List Int} {k : Int} (hj : ordI r.d r.xs.length t = j) (hL : colsOf r j = L) (hk : ix r.xs j = k) (h : k = 7) (hq : q < L.length) : stT r s t (q + 1) = stT r s t q := by
  subst hj hL hk
  unfold stT
  rw [fold_take _ _ hq, stepC_skip _ h]
theorem stT_go (r : RowM) (s : List OpM × Int) (t q : Nat) {j : Nat} {L : List Int} {k : Int} (hj : ordI r.d r.xs.length t = j) (hL : colsOf r j = L) (hk : ix r.xs j = k) (h : ¬ k = 7) (hq : q < L.length) : stT r s t (q + 1) = ((stT r s t q).1 ++ (carryM (stT r s t q).2 (2 * L[q] + 1) r.d r.c ++ stitchM k (2 * L[q] + 1) r.d r.c), 2 * L[q] + 1 + (r.d + 1) / 2) := by
  subst hj hL hk
  unfold stT
  rw [fold_take _ _ hq, stepC_go _ h]
theorem stT_bd {r : RowM} (hr : LaidRow r.d r.c r.xs) (s : List OpM × Int) (h : -3 ≤ s.2 ∧ s.2 ≤ 27) (t : Nat) (ht : t < r.xs.length) (q : Nat) : (-3 ≤ (stT r s t q).2 ∧ (stT r s t q).2 ≤ 27) ∧ (stT r s t q).1.length ≤ s.1.length + 16 * t + 16 := by
  have h1 := rowTo_bd hr s h t (by omega)
  have h2 := fold_bd (car := r.c) (k := ix r.xs (ordI r.d r.xs.length t)) hr.dir ((colsOf r (ordI r.d r.xs.length t)).take q) (rowTo r s t) (fun x hx => colsOf_in hr (ordI_lt ht) x (List.mem_of_mem_take hx)) h1.1
  have h3 := colsOf_length r (ordI r.d r.xs.length t)
  have h4 := madeK_bd (ix r.xs (ordI r.d r.xs.length t))
  rw [List.length_take] at h2
  unfold stT
  omega
theorem cell_lt {w : World} {b o : Nat} {v : Value} (h : w.cell? ⟨b, o, none⟩ = some v) : b < w.heap.size := by
  rcases Nat.lt_or_ge b w.heap.size with h1 | h1
  · exact h1
  · rw [World.cell?, Array.getElem?_eq_none h1] at h
    simp at h
theorem order_D (w : World) (S : Nat → Prop) (v : Value) (d c : Int) (xs : List Int) (h : RowV w S v ⟨d, c, xs⟩) (hd : d = 1 ∨ d = -1) (hl : xs.length ≤ 16) :
    Calls Tryz.prog 84 #[v] w fun e w' => ∃ v', e = .returned v' ∧ Ints w' (New w.heap.size w'.heap.size) v' (ordM d xs.length) ∧ Up w w' := order_any w S v ⟨d, c, xs⟩ h hd hl
theorem results_D (w : World) (S : Nat → Prop) (v : Value) (d c : Int) (xs : List Int) (h : RowV w S v ⟨d, c, xs⟩) (hs : stB xs = true) :
    Calls Tryz.prog 83 #[v] w fun e w' => ∃ v, e = .returned v ∧ IntSS w' (New w.heap.size w'.heap.size) v (listsM madeK 0 xs) ∧ Up w w' := results_any w S v ⟨d, c, xs⟩ h hs
/-- what holds at the head of each round of the row's walk -/
structure RowO (w0 : World) (lo mid hi : Nat) (wr : World) (v : Value) (out : List OpM) (rv : Value) (P : Nat → Prop) (xss : List (List Int)) (ov : Value) (os : List Int) : Prop where
  o : OwnO wr w0.heap.size v out
  f : Off lo hi v
  s : SSPart wr (New lo mid) rv P xss
  d : Ints wr (New mid hi) ov os
  g : Up w0 wr
  b : w0.heap.size ≤ lo
  m : lo ≤ mid ∧ mid ≤ hi
  h : hi ≤ wr.heap.size
theorem RowO.up {w0 : World} {lo mid hi : Nat} {wr w' : World} {v : Value} {out : List OpM} {rv : Value} {P : Nat → Prop} {xss : List (List Int)} {ov : Value} {os : List Int} (k : RowO w0 lo mid hi wr v out rv P xss ov os) (g : Up wr w') : RowO w0 lo mid hi w' v out rv P xss ov os :=
  ⟨k.o.up g, k.f, k.s.up g, k.d.up g, Chg.trans k.g g, k.b, k.m, Nat.le_trans k.h g.size⟩
theorem RowO.app {w0 : World} {lo mid hi : Nat} {wr w' : World} {v v' : Value} {out out' : List OpM} {rv : Value} {P : Nat → Prop} {xss : List (List Int)} {ov : Value} {os : List Int} (k : RowO w0 lo mid hi wr v out rv P xss ov os) (o : OwnO w' w0.heap.size v' out') (g : Chg (fun b => v.ownBlock = some b) wr w') (hb : ∀ g, v'.ownBlock = some g → v.ownBlock = some g ∨ wr.heap.size ≤ g) : RowO w0 lo mid hi w' v' out' rv P xss ov os := by
  obtain ⟨hm1, hm2⟩ := k.m
  refine ⟨o, fun x hx => (hb x hx).elim (k.f x) (fun hh => .inr (Nat.le_trans k.h hh)), k.s.keep g (fun x _ hx hv => ?_), k.d.keep g (fun x _ hx hv => ?_), Chg.new k.g g (fun x hx hs => by have := (k.o.lt hs).1; omega), k.b, k.m, Nat.le_trans k.h g.size⟩
  · have := k.f x hv
    obtain ⟨h1, h2⟩ := hx
    omega
  · have := k.f x hv
    obtain ⟨h1, h2⟩ := hx
    omega
theorem RowO.ints {w0 : World} {lo mid hi : Nat} {wr w' : World} {v : Value} {out : List OpM} {rv : Value} {P : Nat → Prop} {xss : List (List Int)} {ov : Value} {os : List Int} (k : RowO w0 lo mid hi wr v out rv P xss ov os) (g : Chg (fun b => v.ownBlock = some b) wr w') {u : Value} {ys : List Int} (h : Ints wr (New lo mid) u ys) : Ints w' (New lo mid) u ys := by
  obtain ⟨hm1, hm2⟩ := k.m
  refine h.keep g (fun x _ hx hv => ?_)
  have := k.f x hv
  obtain ⟨h1, h2⟩ := hx
  omega
theorem RowO.turn {w0 : World} {lo mid hi : Nat} {wr w' : World} {v : Value} {out : List OpM} {rv : Value} {P P' : Nat → Prop} {xss : List (List Int)} {ov : Value} {os : List Int} (k : RowO w0 lo mid hi wr v out rv P xss ov os) {Q : Nat → Prop} (g : Chg Q wr w') (hQ : ∀ x, Q x → New lo mid x) (s : SSPart w' (New lo mid) rv P' xss) : RowO w0 lo mid hi w' v out rv P' xss ov os := by
  obtain ⟨hm1, hm2⟩ := k.m
  have hb := k.b
  refine ⟨k.o.kept g (fun x hx hq => ?_), k.f, s, k.d.keep g (fun x _ hx hq => ?_), Chg.new k.g g (fun x hx hs => ?_), k.b, k.m, Nat.le_trans k.h g.size⟩
  · have h1 := k.f x hx
    obtain ⟨h2, h3⟩ := hQ x hq
    omega
  · obtain ⟨h2, h3⟩ := hQ x hq
    obtain ⟨h4, h5⟩ := hx
    omega
  · obtain ⟨h2, h3⟩ := hQ x hs
    omega
theorem RowO.less {w0 : World} {lo mid hi : Nat} {wr : World} {v : Value} {out : List OpM} {rv : Value} {P P' : Nat → Prop} {xss : List (List Int)} {ov : Value} {os : List Int} (k : RowO w0 lo mid hi wr v out rv P xss ov os) (hp : ∀ i, P' i → P i) : RowO w0 lo mid hi wr v out rv P' xss ov os := ⟨k.o, k.f, k.s.less hp, k.d, k.g, k.b, k.m, k.h⟩
end Go.Proofs.YtnjfhpgmogopnaaGreat
