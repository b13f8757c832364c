/- The targets of the columns of a row, on both sides. No condition but room. -/
import Derived.Test.YtnjfhpgmogopnaaRow6
namespace Go.Proofs.Ytnjfhpgmogopnaa
open Go.ChangeShapes Go.WideShapes Go.ChangeAt Go.RowKit
def ApartB (u v : Value) : Prop := ∀ g, u.ownBlock = some g → v.ownBlock ≠ some g
theorem ApartB.symm {u v : Value} (h : ApartB u v) : ApartB v u := fun g h1 h2 => h g h2 h1
/-- three rows under construction, each in a block of its own, beside two slices of slices that are read -/
structure T3 (w : World) (base lo hi : Nat) (v1 v2 v3 : Value) (x1 x2 x3 : List Int) (s1 s2 : Value) (l1 l2 : List (List Int)) : Prop where
  o1 : OwnI w base v1 x1
  o2 : OwnI w base v2 x2
  o3 : OwnI w base v3 x3
  d12 : ApartB v1 v2
  d13 : ApartB v1 v3
  d23 : ApartB v2 v3
  f1 : Off lo hi v1
  f2 : Off lo hi v2
  f3 : Off lo hi v3
  k1 : IntSS w (New lo hi) s1 l1
  k2 : IntSS w (New lo hi) s2 l2
  le : hi ≤ w.heap.size
section
variable {w w' : World} {base lo hi : Nat} {v1 v2 v3 v' s1 s2 : Value} {x1 x2 x3 y1 : List Int} {l1 l2 : List (List Int)}
theorem T3.rot (h : T3 w base lo hi v1 v2 v3 x1 x2 x3 s1 s2 l1 l2) : T3 w base lo hi v2 v3 v1 x2 x3 x1 s1 s2 l1 l2 :=
  ⟨h.o2, h.o3, h.o1, h.d23, h.d12.symm, h.d13.symm, h.f2, h.f3, h.f1, h.k1, h.k2, h.le⟩
theorem T3.up (h : T3 w base lo hi v1 v2 v3 x1 x2 x3 s1 s2 l1 l2) (g : Up w w') : T3 w' base lo hi v1 v2 v3 x1 x2 x3 s1 s2 l1 l2 :=
  ⟨h.o1.up g, h.o2.up g, h.o3.up g, h.d12, h.d13, h.d23, h.f1, h.f2, h.f3, h.k1.up g, h.k2.up g, Nat.le_trans h.le g.size⟩
theorem T3.off (h : T3 w base lo hi v1 v2 v3 x1 x2 x3 s1 s2 l1 l2) : ∀ b, b < w.heap.size → New lo hi b → ¬ v1.ownBlock = some b := fun b _ hn hb => by
  have := h.f1 b hb
  simp only [New] at hn
  omega
theorem T3.app (h : T3 w base lo hi v1 v2 v3 x1 x2 x3 s1 s2 l1 l2) (ho : OwnI w' base v' y1) (g : Chg (fun b => v1.ownBlock = some b) w w') (hb : ∀ b, v'.ownBlock = some b → v1.ownBlock = some b ∨ w.heap.size ≤ b) :
    T3 w' base lo hi v' v2 v3 y1 x2 x3 s1 s2 l1 l2 :=
  ⟨ho, h.o2.kept g (fun b hb2 h1 => h.d12 b h1 hb2), h.o3.kept g (fun b hb2 h1 => h.d13 b h1 hb2),
   fun b h1 h2 => (hb b h1).elim (fun h3 => h.d12 b h3 h2) (fun h3 => by have := (h.o2.lt h2).2; omega),
   fun b h1 h2 => (hb b h1).elim (fun h3 => h.d13 b h3 h2) (fun h3 => by have := (h.o3.lt h2).2; omega), h.d23,
   fun b h1 => (hb b h1).elim (h.f1 b) (fun h3 => .inr (Nat.le_trans h.le h3)), h.f2, h.f3, h.k1.keep g h.off, h.k2.keep g h.off, Nat.le_trans h.le g.size⟩
theorem T3.ints (h : T3 w base lo hi v1 v2 v3 x1 x2 x3 s1 s2 l1 l2) (g : Chg (fun b => v1.ownBlock = some b) w w') {u : Value} {ys : List Int} (hu : Ints w (New lo hi) u ys) : Ints w' (New lo hi) u ys := hu.keep g h.off
theorem T3.app2 {y2 : List Int} (h : T3 w base lo hi v1 v2 v3 x1 x2 x3 s1 s2 l1 l2) (ho : OwnI w' base v' y2) (g : Chg (fun b => v2.ownBlock = some b) w w') (hb : ∀ b, v'.ownBlock = some b → v2.ownBlock = some b ∨ w.heap.size ≤ b) :
    T3 w' base lo hi v1 v' v3 x1 y2 x3 s1 s2 l1 l2 := ((h.rot.app ho g hb).rot).rot
theorem T3.app3 {y3 : List Int} (h : T3 w base lo hi v1 v2 v3 x1 x2 x3 s1 s2 l1 l2) (ho : OwnI w' base v' y3) (g : Chg (fun b => v3.ownBlock = some b) w w') (hb : ∀ b, v'.ownBlock = some b → v3.ownBlock = some b ∨ w.heap.size ≤ b) :
    T3 w' base lo hi v1 v2 v' x1 x2 y3 s1 s2 l1 l2 := (h.rot.rot.app ho g hb).rot
end
def trTo (k s r : Int) (q : Nat) : List Tr := (List.range q).map (trOne k s r)
theorem trTo_succ (k s r : Int) (q : Nat) : trTo k s r (q + 1) = trTo k s r q ++ [trOne k s r q] := by simp [trTo, List.range_succ]
theorem trTo_all {k : Int} {n : Nat} (h : takenK k = n) (s r : Int) : trAt k s r = trTo k s r n := by unfold trAt trTo; rw [h]; simp
theorem trTo_length (k s r : Int) (q : Nat) : (trTo k s r q).length = q := by simp [trTo]
theorem ownsL_snoc (P : List Tr) (k s r : Int) (q : Nat) : ownsL (P ++ trTo k s r (q + 1)) = ownsL (P ++ trTo k s r q) ++ [2 * (s + q) + 1] := by
  rw [trTo_succ, ← List.append_assoc]
  unfold ownsL trOne
  rw [List.map_append]
  split <;> rfl
theorem togL_one {k : Int} (h : madeK k = 1) (P : List Tr) (s r : Int) (q : Nat) : togL (P ++ trTo k s r (q + 1)) = togL (P ++ trTo k s r q) ++ [2 * s + 1] := by
  rw [trTo_succ, ← List.append_assoc]
  unfold togL trOne
  rw [List.map_append, if_pos h]
  rfl
theorem movL_one {k : Int} (h : madeK k = 1) (P : List Tr) (s r : Int) (q : Nat) : movL (P ++ trTo k s r (q + 1)) = movL (P ++ trTo k s r q) ++ [2 * r + 1] := by
  rw [trTo_succ, ← List.append_assoc]
  unfold movL trOne
  rw [List.map_append, if_pos h]
  rfl
theorem togL_more {k : Int} (h : madeK k ≠ 1) (P : List Tr) (s r : Int) (q : Nat) : togL (P ++ trTo k s r (q + 1)) = togL (P ++ trTo k s r q) ++ [2 * (s + q) + 1] := by
  rw [trTo_succ, ← List.append_assoc]
  unfold togL trOne
  rw [List.map_append, if_neg h]
  rfl
theorem movL_more {k : Int} (h : madeK k ≠ 1) (P : List Tr) (s r : Int) (q : Nat) : movL (P ++ trTo k s r (q + 1)) = movL (P ++ trTo k s r q) ++ [2 * (r + q) + 1] := by
  rw [trTo_succ, ← List.append_assoc]
  unfold movL trOne
  rw [List.map_append, if_neg h]
  rfl
theorem kind_45 {k : Int} (h : k = 4 ∨ k = 5) : madeK k = 1 := by
  unfold madeK; rw [if_neg (by omega), if_neg (by omega)]
/-- a stitch that is neither 'left' nor 'right' and makes one column takes at most one -/
theorem taken_one {k : Int} (h : ¬ (k = 4 ∨ k = 5)) (hm : madeK k = 1) : takenK k ≤ 1 := by
  unfold takenK
  unfold madeK at hm
  split at hm
  · omega
  · split at hm
    · omega
    · split
      · omega
      · rw [if_neg (by omega)]
        first | omega | (split <;> omega)
theorem toglen (P : List Tr) (k s r : Int) (q : Nat) : (ownsL (P ++ trTo k s r q)).length = P.length + q ∧ (togL (P ++ trTo k s r q)).length = P.length + q ∧ (movL (P ++ trTo k s r q)).length = P.length + q := by
  simp [ownsL, togL, movL, trTo]
theorem trL_len_le {xs : List Int} {j : Nat} (h : xs.length ≤ 16) : (trL 0 0 (xs.take j)).length ≤ 64 := by
  have h1 := trL_length (xs.take j) 0 0
  have h2 := (sumF_bd takenK 0 4 (by omega) (fun x => by have := takenK_bd x; omega) (xs.take j)).2
  rw [List.length_take] at h2
  omega
theorem ix_count (a : Int) (n q : Nat) (h : q < n) : ix (countM a n) q = a + q := by
  rw [ix_eq (by rw [countM_len]; exact h), countM_get]
/-- three slices of the call's own, each in a block of its own -/
structure Own3 (w : World) (base : Nat) (v1 v2 v3 : Value) (x1 x2 x3 : List Int) : Prop where
  o1 : OwnI w base v1 x1
  o2 : OwnI w base v2 x2
  o3 : OwnI w base v3 x3
  d12 : ApartB v1 v2
  d13 : ApartB v1 v3
  d23 : ApartB v2 v3
theorem Own3.up {w w' : World} {base : Nat} {v1 v2 v3 : Value} {x1 x2 x3 : List Int} (h : Own3 w base v1 v2 v3 x1 x2 x3) (g : Up w w') : Own3 w' base v1 v2 v3 x1 x2 x3 := ⟨h.o1.up g, h.o2.up g, h.o3.up g, h.d12, h.d13, h.d23⟩
theorem OwnI.lower {w : World} {base b2 : Nat} {v : Value} {xs : List Int} (h : OwnI w base v xs) (hb : b2 ≤ base) : OwnI w b2 v xs := by
  obtain ⟨⟨h1, h2⟩, h3⟩ := h
  refine ⟨⟨h1, ?_⟩, h3⟩
  rcases h2 with h2 | ⟨g, cap, cur, rfl, hg, r⟩
  · exact .inl h2
  · exact .inr ⟨g, cap, cur, rfl, Nat.le_trans hb hg, r⟩
set_option maxRecDepth 100000 in
set_option maxHeartbeats 16000000 in
theorem targets_any (w : World) (S : Nat → Prop) (v : Value) (r : RowM) (h : RowV w S v r) (hs : stB r.xs = true) :
    Calls Try.prog 125 #[v] w fun e w' => ∃ v1 v2 v3, e = .returned (.tuple #[v1, v2, v3]) ∧ Own3 w' w.heap.size v1 v2 v3 (ownsL (trL 0 0 r.xs)) (togL (trL 0 0 r.xs)) (movL (trL 0 0 r.xs)) ∧ Up w w' := by
  obtain ⟨A, c, rfl, h4, h5, h6⟩ := openRow h
  have U0 := Lib.hid (Chg.refl Nowhere w)
  have HI := Lib.hid h
  have HI4 := Lib.hid h4
  have HS := Lib.hid hs
  have hl := stB_len hs
  have HK := Lib.hid (stB_kind hs)
  clear h4 h hs
  have U_1 := Lib.hid (Chg.trans U0.out ((Chg.refl Nowhere w).alloc (.cells #[.int .i64 r.d, .int .i64 r.c, .slice A r.xs.length c] 87)))
  clear U0
  have I_2 := Lib.hid (HI.out.up ((Chg.refl Nowhere w).alloc (.cells #[.int .i64 r.d, .int .i64 r.c, .slice A r.xs.length c] 87)))
  clear HI
  have J_3 := Lib.hid (HI4.out.up ((Chg.refl Nowhere w).alloc (.cells #[.int .i64 r.d, .int .i64 r.c, .slice A r.xs.length c] 87)))
  clear HI4
  have q0_4 := (show (w.alloc (.cells #[.int .i64 r.d, .int .i64 r.c, .slice A r.xs.length c] 87)).cell? ⟨w.heap.size, 0, none⟩ = some (.int .i64 r.d) from cell_new _ _ _ _)
  have q1_5 := (show (w.alloc (.cells #[.int .i64 r.d, .int .i64 r.c, .slice A r.xs.length c] 87)).cell? ⟨w.heap.size, 1, none⟩ = some (.int .i64 r.c) from cell_new _ _ _ _)
  have q2_6 := (show (w.alloc (.cells #[.int .i64 r.d, .int .i64 r.c, .slice A r.xs.length c] 87)).cell? ⟨w.heap.size, 2, none⟩ = some (.slice A r.xs.length c) from cell_new _ _ _ _)
  have hbx7 : w.heap.size < (w.alloc (.cells #[.int .i64 r.d, .int .i64 r.c, .slice A r.xs.length c] 87)).heap.size := by simp
  go_enter Try.func125, Try.ntmps125
  go_wp2_with fail
  refine (results_any _ S _ r (I_2.out.up (by repeat (first | exact Chg.refl _ _ | apply Chg.drew | apply Chg.drewN | refine Chg.alloc ?_ _))) HS.out).mono ?_
  rintro e w8 ⟨v8, rfl, k1, g1⟩
  obtain ⟨A8, c8, rfl, hl8, hc8, -⟩ := k1.shape
  have K1 := Lib.hid k1
  clear k1
  have G1 := Lib.hid g1
  obtain ⟨hy8, hz8⟩ := up_pre (show Up (w.alloc (.cells #[.int .i64 r.d, .int .i64 r.c, .slice A r.xs.length c] 87)) _ from (by repeat (first | exact Chg.refl _ _ | apply Chg.drew | apply Chg.drewN | refine Chg.alloc ?_ _))) G1.out
  clear g1
  have U_9 := Lib.hid (Chg.trans U_1.out (Chg.trans (by repeat (first | exact Chg.refl _ _ | apply Chg.drew | apply Chg.drewN | refine Chg.alloc ?_ _)) G1.out))
  clear U_1
  have I_10 := Lib.hid (I_2.out.up (Chg.trans (by repeat (first | exact Chg.refl _ _ | apply Chg.drew | apply Chg.drewN | refine Chg.alloc ?_ _)) G1.out))
  clear I_2
  have J_11 := Lib.hid (J_3.out.up (Chg.trans (by repeat (first | exact Chg.refl _ _ | apply Chg.drew | apply Chg.drewN | refine Chg.alloc ?_ _)) G1.out))
  clear J_3
  have q0_12 := Chg.cell (Chg.trans (by repeat (first | exact Chg.refl _ _ | apply Chg.drew | apply Chg.drewN | refine Chg.alloc ?_ _)) G1.out) q0_4 id
  clear q0_4
  have q1_13 := Chg.cell (Chg.trans (by repeat (first | exact Chg.refl _ _ | apply Chg.drew | apply Chg.drewN | refine Chg.alloc ?_ _)) G1.out) q1_5 id
  clear q1_5
  have q2_14 := Chg.cell (Chg.trans (by repeat (first | exact Chg.refl _ _ | apply Chg.drew | apply Chg.drewN | refine Chg.alloc ?_ _)) G1.out) q2_6 id
  clear q2_6
  clear G1
  have L_15 := Lib.hid (K1.out)
  clear K1
  go_wp2_with fail
  refine (sources_any _ S _ r (I_10.out.up (by repeat (first | exact Chg.refl _ _ | apply Chg.drew | apply Chg.drewN | refine Chg.alloc ?_ _))) HS.out).mono ?_
  rintro e w16 ⟨v16, rfl, k1, g1⟩
  obtain ⟨A16, c16, rfl, hl16, hc16, -⟩ := k1.shape
  have K1 := Lib.hid k1
  clear k1
  have G1 := Lib.hid g1
  obtain ⟨hy16, hz16⟩ := up_pre (show Up w8 _ from (by repeat (first | exact Chg.refl _ _ | apply Chg.drew | apply Chg.drewN | refine Chg.alloc ?_ _))) G1.out
  clear g1
  have U_17 := Lib.hid (Chg.trans U_9.out (Chg.trans (by repeat (first | exact Chg.refl _ _ | apply Chg.drew | apply Chg.drewN | refine Chg.alloc ?_ _)) G1.out))
  clear U_9
  have I_18 := Lib.hid (I_10.out.up (Chg.trans (by repeat (first | exact Chg.refl _ _ | apply Chg.drew | apply Chg.drewN | refine Chg.alloc ?_ _)) G1.out))
  clear I_10
  have J_19 := Lib.hid (J_11.out.up (Chg.trans (by repeat (first | exact Chg.refl _ _ | apply Chg.drew | apply Chg.drewN | refine Chg.alloc ?_ _)) G1.out))
  clear J_11
  have q0_20 := Chg.cell (Chg.trans (by repeat (first | exact Chg.refl _ _ | apply Chg.drew | apply Chg.drewN | refine Chg.alloc ?_ _)) G1.out) q0_12 id
  clear q0_12
  have q1_21 := Chg.cell (Chg.trans (by repeat (first | exact Chg.refl _ _ | apply Chg.drew | apply Chg.drewN | refine Chg.alloc ?_ _)) G1.out) q1_13 id
  clear q1_13
  have q2_22 := Chg.cell (Chg.trans (by repeat (first | exact Chg.refl _ _ | apply Chg.drew | apply Chg.drewN | refine Chg.alloc ?_ _)) G1.out) q2_14 id
  clear q2_14
  have L_23 := Lib.hid (L_15.out.up (Chg.trans (by repeat (first | exact Chg.refl _ _ | apply Chg.drew | apply Chg.drewN | refine Chg.alloc ?_ _)) G1.out))
  clear L_15
  clear G1
  have K_24 := Lib.hid (K1.out)
  clear K1
  have hT0 := Lib.hid (show T3 w16 w16.heap.size w.heap.size w16.heap.size (.slice none 0 0) (.slice none 0 0) (.slice none 0 0) (ownsL (trL 0 0 (r.xs.take 0))) (togL (trL 0 0 (r.xs.take 0))) (movL (trL 0 0 (r.xs.take 0))) _ _ _ _ from ⟨OwnI.nil _ _, OwnI.nil _ _, OwnI.nil _ _, fun g h => by simp [Value.ownBlock] at h, fun g h => by simp [Value.ownBlock] at h, fun g h => by simp [Value.ownBlock] at h, fun g h => by simp [Value.ownBlock] at h, fun g h => by simp [Value.ownBlock] at h, fun g h => by simp [Value.ownBlock] at h, K_24.out.mono (fun b hb => ⟨by have := hb.1; simp at *; omega, by have := hb.2; simp at *; omega⟩), L_23.out.mono (fun b hb => ⟨by have := hb.1; simp at *; omega, by have := hb.2; simp at *; omega⟩), Nat.le_refl _⟩)
  have UA := U_17
  have JA := J_19
  have QA := q2_22
  have hlm1 := listsM_length takenK 0 r.xs
  have hlm2 := listsM_length madeK 0 r.xs
  go_wp2
  go_loopw [2, 3, 4, 6, 7, 8, 9, 10, 16] (fun v1 v2 v3 _ _ _ _ _ i wr => ∃ j : Nat, j ≤ r.xs.length ∧ i = .int .i64 j ∧ Hid (T3 wr w16.heap.size w.heap.size w16.heap.size v1 v2 v3 (ownsL (trL 0 0 (r.xs.take j))) (togL (trL 0 0 (r.xs.take j))) (movL (trL 0 0 (r.xs.take j))) (.slice A16 (listsM takenK 0 r.xs).length c16) (.slice A8 (listsM madeK 0 r.xs).length c8) (listsM takenK 0 r.xs) (listsM madeK 0 r.xs)) ∧ Hid (Up w16 wr)) (fun _ _ _ _ _ _ _ _ i _ => r.xs.length - (intOf i).toNat)
  case atStart => exact ⟨0, by omega, rfl, hT0.out, Chg.refl _ _⟩
  clear hT0
  case round =>
    obtain ⟨j, hj, rfl, ho, hg⟩ := hrel
    by_cases hlt : j < r.xs.length
    rotate_left
    · obtain rfl : j = r.xs.length := by omega
      have hjl : ¬ ((r.xs.length : Int) < (listsM takenK 0 r.xs).length) := by rw [hlm1]; omega
      have HX := Lib.hid (show r.xs.take r.xs.length = r.xs by rw [List.take_length])
      have HO := Lib.hid ho.out
      clear ho
      rw [HX.out] at HO
      go_wp2
      go_ret3
      exact ⟨_, _, _, rfl, ⟨HO.out.o1.lower UA.out.size, HO.out.o2.lower UA.out.size, HO.out.o3.lower UA.out.size, HO.out.d12, HO.out.d13, HO.out.d23⟩, Chg.trans UA.out hg.out⟩
    have hj1 : j < (listsM takenK 0 r.xs).length := by rw [hlm1]; exact hlt
    have hj2 : j < (listsM madeK 0 r.xs).length := by rw [hlm2]; exact hlt
    have hj1i : (j : Int) < (listsM takenK 0 r.xs).length := by omega
    have hj2i : (j : Int) < (listsM madeK 0 r.xs).length := by omega
    obtain ⟨n, hn⟩ := Int.eq_ofNat_of_zero_le (takenK_bd r.xs[j]).1
    obtain ⟨m, hm⟩ := Int.eq_ofNat_of_zero_le (show 0 ≤ madeK r.xs[j] by have := madeK_bd r.xs[j]; omega)
    have hnb := takenK_bd r.xs[j]
    have hmb := madeK_bd r.xs[j]
    rw [hn] at hnb
    rw [hm] at hmb
    have hG1 := listsM_get takenK 0 r.xs j hlt
    have hG2 := listsM_get madeK 0 r.xs j hlt
    rw [Int.zero_add, hn] at hG1
    rw [Int.zero_add, hm] at hG2
    have hb1 := sumF_bd takenK 0 4 (by omega) (fun x => by have := takenK_bd x; omega) (r.xs.take j)
    have hb2 := sumF_bd madeK 0 4 (by omega) (fun x => by have := madeK_bd x; omega) (r.xs.take j)
    rw [List.length_take, Nat.min_eq_left hj] at hb1 hb2
    have hT := trL_take hlt
    rw [trTo_all hn] at hT
    generalize hsv : sumF takenK (r.xs.take j) = sv at *
    generalize hrv : sumF madeK (r.xs.take j) = rv at *
    have hPl := trL_len_le (xs := r.xs) (j := j) hl
    have HP := Lib.hid hT
    have HG1 := Lib.hid hG1
    have HG2 := Lib.hid hG2
    have HN := Lib.hid hn
    have HM := Lib.hid hm
    have HR1 := Lib.hid hsv
    have HR2 := Lib.hid hrv
    clear hT hG1 hG2 hn hm hsv hrv
    generalize hP : trL 0 0 (r.xs.take j) = P at *
    have HPP := Lib.hid hP
    clear hP
    have hsz := hg.out.size
    have hszl := ho.out.le
    obtain ⟨b, o, c', B, ci, he, hbS, hbl, g3, k3, h31, h32⟩ := ho.out.k1.at_ hj1
    obtain ⟨rfl, rfl⟩ : A16 = some ⟨b, o, none⟩ ∧ c16 = c' := by simpa using he
    have K3 := Lib.hid k3
    clear he k3
    rw [HG1.out] at g3 K3 h31
    rw [countM_len] at g3 K3 h31
    obtain ⟨wo, rfl⟩ : ∃ wo : World, wo = wr := ⟨_, rfl⟩
    go_wp2
    go_loopw [2, 3, 4, 8, 9, 10, 23] (fun v1 v2 v3 _ _ _ i wr => ∃ t : Nat, t ≤ n ∧ i = .int .i64 t ∧ Hid (T3 wr w16.heap.size w.heap.size w16.heap.size v1 v2 v3 (ownsL (P ++ trTo r.xs[j] sv rv t)) (togL (P ++ trTo r.xs[j] sv rv t)) (movL (P ++ trTo r.xs[j] sv rv t)) (.slice (some ⟨b, o, none⟩) (listsM takenK 0 r.xs).length c16) (.slice A8 (listsM madeK 0 r.xs).length c8) (listsM takenK 0 r.xs) (listsM madeK 0 r.xs)) ∧ Hid (Up w16 wr) ∧ Hid (Ints wr (New w.heap.size w16.heap.size) (.slice B n ci) (countM sv n))) (fun _ _ _ _ _ _ i _ => n - (intOf i).toNat)
    case atStart => exact ⟨0, by omega, rfl, by simpa [trTo, Hid] using ho, hg, K3⟩
    clear ho hg K3 g3
    case round =>
      obtain ⟨t, ht, rfl, ho, hg, hK⟩ := hrel
      have hsz := hg.out.size
      by_cases hlt2 : t < n
      rotate_left
      · obtain rfl : t = n := by omega
        go_wp2
        go_roundw
        case rel => exact ⟨j + 1, by omega, by go_num, by rw [HP.out]; exact ho, hg⟩
        case measure => simp [intOf]; omega
      have HL1 := Lib.hid (show (ownsL (P ++ trTo r.xs[j] sv rv t)).length ≤ 1099511627776 by have := toglen P r.xs[j] sv rv t; omega)
      have HL2 := Lib.hid (show (togL (P ++ trTo r.xs[j] sv rv t)).length ≤ 1099511627776 by have := toglen P r.xs[j] sv rv t; omega)
      have HL3 := Lib.hid (show (movL (P ++ trTo r.xs[j] sv rv t)).length ≤ 1099511627776 by have := toglen P r.xs[j] sv rv t; omega)
      have HV1 := Lib.hid (show I64 (2 * (sv + t) + 1) by unfold I64; omega)
      have HV2 := Lib.hid (show I64 (2 * sv + 1) by unfold I64; omega)
      have HV3 := Lib.hid (show I64 (2 * rv + 1) by unfold I64; omega)
      have HV4 := Lib.hid (show I64 (2 * (rv + t) + 1) by unfold I64; omega)
      obtain ⟨z1b, z1o, z1A, -, z1c⟩ := Ints.ix (A := B) (c := ci) (xs := countM sv n) (by rw [countM_len]; exact hK.out) (i := t) (by rw [countM_len]; exact hlt2)
      subst z1A
      have z1f := z1c t (by rw [countM_len]; exact hlt2)
      rw [ix_count sv n t hlt2] at z1f
      clear z1c
      go_wp2_with fail
      refine (needleOf_any _ _ ⟨by omega, by omega⟩).mono ?_
      rintro e w' ⟨rfl, rfl⟩
      clear z1f
      by_cases h45 : r.xs[j] = 4 ∨ r.xs[j] = 5
      · skip
        have hM := kind_45 h45
        have h4 : (r.xs[j] == 4) = true ∨ (r.xs[j] == 4) = false ∧ (r.xs[j] == 5) = true := by by_cases h : r.xs[j] = 4 <;> simp_all
        have hm1 : (m : Int) = 1 := by rw [← HM.out]; exact hM
        have hm0 : 0 < m := by omega
        have HMM := Lib.hid hM
        clear h45 hM
        rcases h4 with h4 | ⟨h4, h5⟩
        · skip
          go_wp2_with (first | (at_builtin; refine wp_append_int2 rfl _ _ rfl w16.heap.size _ (ownsL (P ++ trTo r.xs[j] sv rv t)) rfl (ho.out.o1.alloc _) _ (2 * (sv + t) + 1) rfl (cell_new _ _ _ _) HV1.out HL1.out ?_ ?_; (simp; omega); intro v2 w2 ho1 ho2 ho3 hg1; have B1_2 := Lib.hid ho1; have B2_2 := Lib.hid ho2; have B3_2 := Lib.hid ho3; have B4_2 := Lib.hid hg1; clear ho1 ho2 ho3 hg1; have T_2 := Lib.hid (T3.app (ho.out.up ((Chg.refl Nowhere _).alloc _)) B1_2.out B2_2.out B3_2.out); have U_2 := Lib.hid (Chg.new (hg.out.trans ((Chg.refl Nowhere _).alloc _)) B4_2.out (fun i hi => by omega)); have K_2 := Lib.hid (T3.ints (ho.out.up ((Chg.refl Nowhere _).alloc _)) B2_2.out (hK.out.up ((Chg.refl Nowhere _).alloc _))); have hs_2 := U_2.out.size; have hle_2 := T_2.out.le; clear B1_2 B2_2 B3_2 B4_2 ho hg hK; obtain ⟨z3b, z3o, z3A, -, z3c⟩ := JA.out.ix hlt; subst z3A; have z3f := Chg.cell U_2.out (z3c j hlt) id; rw [ix_eq hlt] at z3f; have z3g := Chg.cell U_2.out QA id; clear z3c; obtain ⟨z4b, z4o, z4A, -, z4c⟩ := Ints.ix (A := some ⟨z1b, z1o, none⟩) (c := ci) (xs := countM sv n) (by rw [countM_len]; exact K_2.out) (i := 0) (by rw [countM_len]; exact (show 0 < n by omega)); obtain ⟨rfl, rfl⟩ : z1b = z4b ∧ z1o = z4o := (by simpa using z4A); have z4f := z4c 0 (by rw [countM_len]; exact (show 0 < n by omega)); rw [ix_count sv n 0 (show 0 < n by omega)] at z4f; clear z4c; rw [show sv + ((0 : Nat) : Int) = sv by omega, Nat.add_zero] at z4f))
          refine (needleOf_any _ _ ⟨by omega, by omega⟩).mono ?_
          rintro e w' ⟨rfl, rfl⟩
          clear z3f z3g z4f
          go_wp2_with (first | (at_builtin; refine wp_append_int2 rfl _ _ rfl w16.heap.size _ (togL (P ++ trTo r.xs[j] sv rv t)) rfl (T_2.out.o2.alloc _) _ (2 * sv + 1) rfl (cell_new _ _ _ _) HV2.out HL2.out ?_ ?_; (simp; omega); intro v5 w5 ho1 ho2 ho3 hg1; have B1_5 := Lib.hid ho1; have B2_5 := Lib.hid ho2; have B3_5 := Lib.hid ho3; have B4_5 := Lib.hid hg1; clear ho1 ho2 ho3 hg1; have T_5 := Lib.hid (T3.app2 (T_2.out.up ((Chg.refl Nowhere _).alloc _)) B1_5.out B2_5.out B3_5.out); have U_5 := Lib.hid (Chg.new (U_2.out.trans ((Chg.refl Nowhere _).alloc _)) B4_5.out (fun i hi => by omega)); have K_5 := Lib.hid (T3.ints (T_2.out.up ((Chg.refl Nowhere _).alloc _)).rot B2_5.out (K_2.out.up ((Chg.refl Nowhere _).alloc _))); have hs_5 := U_5.out.size; have hle_5 := T_5.out.le; clear B1_5 B2_5 B3_5 B4_5 T_2 U_2 K_2; obtain ⟨z6b, z6o, z6c, z6B, z6i, z6he, -, -, z6f, z6k, z6h1, z6h2⟩ := T_5.out.k2.at_ hj2; obtain ⟨rfl, rfl⟩ : A8 = some ⟨z6b, z6o, none⟩ ∧ c8 = z6c := (by simpa using z6he); rw [HG2.out] at z6f z6k z6h1; rw [countM_len] at z6f z6k z6h1; obtain ⟨z7b, z7o, z7A, -, z7c⟩ := Ints.ix (A := z6B) (c := z6i) (xs := countM rv m) (by rw [countM_len]; exact z6k) (i := 0) (by rw [countM_len]; exact hm0); subst z7A; have z7f := z7c 0 (by rw [countM_len]; exact hm0); rw [ix_count rv m 0 hm0] at z7f; clear z7c; rw [show rv + ((0 : Nat) : Int) = rv by omega, Nat.add_zero] at z7f; clear z6he z6k))
          refine (needleOf_any _ _ ⟨by omega, by omega⟩).mono ?_
          rintro e w' ⟨rfl, rfl⟩
          clear z6f z7f
          go_wp2_with (first | (at_builtin; refine wp_append_int2 rfl _ _ rfl w16.heap.size _ (movL (P ++ trTo r.xs[j] sv rv t)) rfl (T_5.out.o3.alloc _) _ (2 * rv + 1) rfl (cell_new _ _ _ _) HV3.out HL3.out ?_ ?_; (simp; omega); intro v8 w8 ho1 ho2 ho3 hg1; have B1_8 := Lib.hid ho1; have B2_8 := Lib.hid ho2; have B3_8 := Lib.hid ho3; have B4_8 := Lib.hid hg1; clear ho1 ho2 ho3 hg1; have T_8 := Lib.hid (T3.app3 (T_5.out.up ((Chg.refl Nowhere _).alloc _)) B1_8.out B2_8.out B3_8.out); have U_8 := Lib.hid (Chg.new (U_5.out.trans ((Chg.refl Nowhere _).alloc _)) B4_8.out (fun i hi => by omega)); have K_8 := Lib.hid (T3.ints (T_5.out.up ((Chg.refl Nowhere _).alloc _)).rot.rot B2_8.out (K_5.out.up ((Chg.refl Nowhere _).alloc _))); have hs_8 := U_8.out.size; have hle_8 := T_8.out.le; clear B1_8 B2_8 B3_8 B4_8 T_5 U_5 K_5))
          have E1 := Lib.hid (ownsL_snoc P r.xs[j] sv rv t)
          have E2 := Lib.hid (togL_one HMM.out P sv rv t)
          have E3 := Lib.hid (movL_one HMM.out P sv rv t)
          go_roundw
          case rel => exact ⟨t + 1, by omega, by go_num, by rw [E1.out, E2.out, E3.out]; exact T_8, U_8, K_8⟩
          case measure => simp [intOf]; omega
        · skip
          go_wp2_with (first | (at_builtin; refine wp_append_int2 rfl _ _ rfl w16.heap.size _ (ownsL (P ++ trTo r.xs[j] sv rv t)) rfl (ho.out.o1.alloc _) _ (2 * (sv + t) + 1) rfl (cell_new _ _ _ _) HV1.out HL1.out ?_ ?_; (simp; omega); intro v2 w2 ho1 ho2 ho3 hg1; have B1_2 := Lib.hid ho1; have B2_2 := Lib.hid ho2; have B3_2 := Lib.hid ho3; have B4_2 := Lib.hid hg1; clear ho1 ho2 ho3 hg1; have T_2 := Lib.hid (T3.app (ho.out.up ((Chg.refl Nowhere _).alloc _)) B1_2.out B2_2.out B3_2.out); have U_2 := Lib.hid (Chg.new (hg.out.trans ((Chg.refl Nowhere _).alloc _)) B4_2.out (fun i hi => by omega)); have K_2 := Lib.hid (T3.ints (ho.out.up ((Chg.refl Nowhere _).alloc _)) B2_2.out (hK.out.up ((Chg.refl Nowhere _).alloc _))); have hs_2 := U_2.out.size; have hle_2 := T_2.out.le; clear B1_2 B2_2 B3_2 B4_2 ho hg hK; obtain ⟨z3b, z3o, z3A, -, z3c⟩ := JA.out.ix hlt; subst z3A; have z3f := Chg.cell U_2.out (z3c j hlt) id; rw [ix_eq hlt] at z3f; have z3g := Chg.cell U_2.out QA id; clear z3c; obtain ⟨z4b, z4o, z4A, -, z4c⟩ := Ints.ix (A := some ⟨z1b, z1o, none⟩) (c := ci) (xs := countM sv n) (by rw [countM_len]; exact K_2.out) (i := 0) (by rw [countM_len]; exact (show 0 < n by omega)); obtain ⟨rfl, rfl⟩ : z1b = z4b ∧ z1o = z4o := (by simpa using z4A); have z4f := z4c 0 (by rw [countM_len]; exact (show 0 < n by omega)); rw [ix_count sv n 0 (show 0 < n by omega)] at z4f; clear z4c; rw [show sv + ((0 : Nat) : Int) = sv by omega, Nat.add_zero] at z4f))
          refine (needleOf_any _ _ ⟨by omega, by omega⟩).mono ?_
          rintro e w' ⟨rfl, rfl⟩
          clear z3f z3g z4f
          go_wp2_with (first | (at_builtin; refine wp_append_int2 rfl _ _ rfl w16.heap.size _ (togL (P ++ trTo r.xs[j] sv rv t)) rfl (T_2.out.o2.alloc _) _ (2 * sv + 1) rfl (cell_new _ _ _ _) HV2.out HL2.out ?_ ?_; (simp; omega); intro v5 w5 ho1 ho2 ho3 hg1; have B1_5 := Lib.hid ho1; have B2_5 := Lib.hid ho2; have B3_5 := Lib.hid ho3; have B4_5 := Lib.hid hg1; clear ho1 ho2 ho3 hg1; have T_5 := Lib.hid (T3.app2 (T_2.out.up ((Chg.refl Nowhere _).alloc _)) B1_5.out B2_5.out B3_5.out); have U_5 := Lib.hid (Chg.new (U_2.out.trans ((Chg.refl Nowhere _).alloc _)) B4_5.out (fun i hi => by omega)); have K_5 := Lib.hid (T3.ints (T_2.out.up ((Chg.refl Nowhere _).alloc _)).rot B2_5.out (K_2.out.up ((Chg.refl Nowhere _).alloc _))); have hs_5 := U_5.out.size; have hle_5 := T_5.out.le; clear B1_5 B2_5 B3_5 B4_5 T_2 U_2 K_2; obtain ⟨z6b, z6o, z6c, z6B, z6i, z6he, -, -, z6f, z6k, z6h1, z6h2⟩ := T_5.out.k2.at_ hj2; obtain ⟨rfl, rfl⟩ : A8 = some ⟨z6b, z6o, none⟩ ∧ c8 = z6c := (by simpa using z6he); rw [HG2.out] at z6f z6k z6h1; rw [countM_len] at z6f z6k z6h1; obtain ⟨z7b, z7o, z7A, -, z7c⟩ := Ints.ix (A := z6B) (c := z6i) (xs := countM rv m) (by rw [countM_len]; exact z6k) (i := 0) (by rw [countM_len]; exact hm0); subst z7A; have z7f := z7c 0 (by rw [countM_len]; exact hm0); rw [ix_count rv m 0 hm0] at z7f; clear z7c; rw [show rv + ((0 : Nat) : Int) = rv by omega, Nat.add_zero] at z7f; clear z6he z6k))
          refine (needleOf_any _ _ ⟨by omega, by omega⟩).mono ?_
          rintro e w' ⟨rfl, rfl⟩
          clear z6f z7f
          go_wp2_with (first | (at_builtin; refine wp_append_int2 rfl _ _ rfl w16.heap.size _ (movL (P ++ trTo r.xs[j] sv rv t)) rfl (T_5.out.o3.alloc _) _ (2 * rv + 1) rfl (cell_new _ _ _ _) HV3.out HL3.out ?_ ?_; (simp; omega); intro v8 w8 ho1 ho2 ho3 hg1; have B1_8 := Lib.hid ho1; have B2_8 := Lib.hid ho2; have B3_8 := Lib.hid ho3; have B4_8 := Lib.hid hg1; clear ho1 ho2 ho3 hg1; have T_8 := Lib.hid (T3.app3 (T_5.out.up ((Chg.refl Nowhere _).alloc _)) B1_8.out B2_8.out B3_8.out); have U_8 := Lib.hid (Chg.new (U_5.out.trans ((Chg.refl Nowhere _).alloc _)) B4_8.out (fun i hi => by omega)); have K_8 := Lib.hid (T3.ints (T_5.out.up ((Chg.refl Nowhere _).alloc _)).rot.rot B2_8.out (K_5.out.up ((Chg.refl Nowhere _).alloc _))); have hs_8 := U_8.out.size; have hle_8 := T_8.out.le; clear B1_8 B2_8 B3_8 B4_8 T_5 U_5 K_5))
          have E1 := Lib.hid (ownsL_snoc P r.xs[j] sv rv t)
          have E2 := Lib.hid (togL_one HMM.out P sv rv t)
          have E3 := Lib.hid (movL_one HMM.out P sv rv t)
          go_roundw
          case rel => exact ⟨t + 1, by omega, by go_num, by rw [E1.out, E2.out, E3.out]; exact T_8, U_8, K_8⟩
          case measure => simp [intOf]; omega
      · skip
        have h4 : (r.xs[j] == 4) = false := by rw [beq_eq_false_iff_ne]; exact fun h => h45 (.inl h)
        have h5 : (r.xs[j] == 5) = false := by rw [beq_eq_false_iff_ne]; exact fun h => h45 (.inr h)
        have hltm : t < m := by
          by_cases hM : madeK r.xs[j] = 1
          · have := taken_one h45 hM; rw [HN.out] at this; rw [HM.out] at hM; omega
          · have := taken_made hM; rw [HN.out, HM.out] at this; omega
        have hsel : (madeK r.xs[j] = 1 ∧ t = 0) ∨ madeK r.xs[j] ≠ 1 := by
          by_cases hM : madeK r.xs[j] = 1
          · have := taken_one h45 hM; rw [HN.out] at this; exact .inl ⟨hM, by omega⟩
          · exact .inr hM
        have HSEL := Lib.hid hsel
        clear h45 hsel
        go_wp2_with (first | (at_builtin; refine wp_append_int2 rfl _ _ rfl w16.heap.size _ (ownsL (P ++ trTo r.xs[j] sv rv t)) rfl (ho.out.o1.alloc _) _ (2 * (sv + t) + 1) rfl (cell_new _ _ _ _) HV1.out HL1.out ?_ ?_; (simp; omega); intro v2 w2 ho1 ho2 ho3 hg1; have B1_2 := Lib.hid ho1; have B2_2 := Lib.hid ho2; have B3_2 := Lib.hid ho3; have B4_2 := Lib.hid hg1; clear ho1 ho2 ho3 hg1; have T_2 := Lib.hid (T3.app (ho.out.up ((Chg.refl Nowhere _).alloc _)) B1_2.out B2_2.out B3_2.out); have U_2 := Lib.hid (Chg.new (hg.out.trans ((Chg.refl Nowhere _).alloc _)) B4_2.out (fun i hi => by omega)); have K_2 := Lib.hid (T3.ints (ho.out.up ((Chg.refl Nowhere _).alloc _)) B2_2.out (hK.out.up ((Chg.refl Nowhere _).alloc _))); have hs_2 := U_2.out.size; have hle_2 := T_2.out.le; clear B1_2 B2_2 B3_2 B4_2 ho hg hK; obtain ⟨z3b, z3o, z3A, -, z3c⟩ := JA.out.ix hlt; subst z3A; have z3f := Chg.cell U_2.out (z3c j hlt) id; rw [ix_eq hlt] at z3f; have z3g := Chg.cell U_2.out QA id; clear z3c; obtain ⟨z4b, z4o, z4A, -, z4c⟩ := Ints.ix (A := some ⟨z1b, z1o, none⟩) (c := ci) (xs := countM sv n) (by rw [countM_len]; exact K_2.out) (i := t) (by rw [countM_len]; exact hlt2); obtain ⟨rfl, rfl⟩ : z1b = z4b ∧ z1o = z4o := (by simpa using z4A); have z4f := z4c t (by rw [countM_len]; exact hlt2); rw [ix_count sv n t hlt2] at z4f; clear z4c))
        refine (needleOf_any _ _ ⟨by omega, by omega⟩).mono ?_
        rintro e w' ⟨rfl, rfl⟩
        clear z3f z3g z4f
        go_wp2_with (first | (at_builtin; refine wp_append_int2 rfl _ _ rfl w16.heap.size _ (togL (P ++ trTo r.xs[j] sv rv t)) rfl (T_2.out.o2.alloc _) _ (2 * (sv + t) + 1) rfl (cell_new _ _ _ _) HV1.out HL2.out ?_ ?_; (simp; omega); intro v5 w5 ho1 ho2 ho3 hg1; have B1_5 := Lib.hid ho1; have B2_5 := Lib.hid ho2; have B3_5 := Lib.hid ho3; have B4_5 := Lib.hid hg1; clear ho1 ho2 ho3 hg1; have T_5 := Lib.hid (T3.app2 (T_2.out.up ((Chg.refl Nowhere _).alloc _)) B1_5.out B2_5.out B3_5.out); have U_5 := Lib.hid (Chg.new (U_2.out.trans ((Chg.refl Nowhere _).alloc _)) B4_5.out (fun i hi => by omega)); have K_5 := Lib.hid (T3.ints (T_2.out.up ((Chg.refl Nowhere _).alloc _)).rot B2_5.out (K_2.out.up ((Chg.refl Nowhere _).alloc _))); have hs_5 := U_5.out.size; have hle_5 := T_5.out.le; clear B1_5 B2_5 B3_5 B4_5 T_2 U_2 K_2; obtain ⟨z6b, z6o, z6c, z6B, z6i, z6he, -, -, z6f, z6k, z6h1, z6h2⟩ := T_5.out.k2.at_ hj2; obtain ⟨rfl, rfl⟩ : A8 = some ⟨z6b, z6o, none⟩ ∧ c8 = z6c := (by simpa using z6he); rw [HG2.out] at z6f z6k z6h1; rw [countM_len] at z6f z6k z6h1; obtain ⟨z7b, z7o, z7A, -, z7c⟩ := Ints.ix (A := z6B) (c := z6i) (xs := countM rv m) (by rw [countM_len]; exact z6k) (i := t) (by rw [countM_len]; exact hltm); subst z7A; have z7f := z7c t (by rw [countM_len]; exact hltm); rw [ix_count rv m t hltm] at z7f; clear z7c; clear z6he z6k))
        refine (needleOf_any _ _ ⟨by omega, by omega⟩).mono ?_
        rintro e w' ⟨rfl, rfl⟩
        clear z6f z7f
        go_wp2_with (first | (at_builtin; refine wp_append_int2 rfl _ _ rfl w16.heap.size _ (movL (P ++ trTo r.xs[j] sv rv t)) rfl (T_5.out.o3.alloc _) _ (2 * (rv + t) + 1) rfl (cell_new _ _ _ _) HV4.out HL3.out ?_ ?_; (simp; omega); intro v8 w8 ho1 ho2 ho3 hg1; have B1_8 := Lib.hid ho1; have B2_8 := Lib.hid ho2; have B3_8 := Lib.hid ho3; have B4_8 := Lib.hid hg1; clear ho1 ho2 ho3 hg1; have T_8 := Lib.hid (T3.app3 (T_5.out.up ((Chg.refl Nowhere _).alloc _)) B1_8.out B2_8.out B3_8.out); have U_8 := Lib.hid (Chg.new (U_5.out.trans ((Chg.refl Nowhere _).alloc _)) B4_8.out (fun i hi => by omega)); have K_8 := Lib.hid (T3.ints (T_5.out.up ((Chg.refl Nowhere _).alloc _)).rot.rot B2_8.out (K_5.out.up ((Chg.refl Nowhere _).alloc _))); have hs_8 := U_8.out.size; have hle_8 := T_8.out.le; clear B1_8 B2_8 B3_8 B4_8 T_5 U_5 K_5))
        have E1 := Lib.hid (ownsL_snoc P r.xs[j] sv rv t)
        have E2 := Lib.hid (show togL (P ++ trTo r.xs[j] sv rv (t + 1)) = togL (P ++ trTo r.xs[j] sv rv t) ++ [2 * (sv + t) + 1] by
          rcases HSEL.out with ⟨h1, rfl⟩ | h1
          · rw [togL_one h1]; simp
          · rw [togL_more h1])
        have E3 := Lib.hid (show movL (P ++ trTo r.xs[j] sv rv (t + 1)) = movL (P ++ trTo r.xs[j] sv rv t) ++ [2 * (rv + t) + 1] by
          rcases HSEL.out with ⟨h1, rfl⟩ | h1
          · rw [movL_one h1]; simp
          · rw [movL_more h1])
        go_roundw
        case rel => exact ⟨t + 1, by omega, by go_num, by rw [E1.out, E2.out, E3.out]; exact T_8, U_8, K_8⟩
        case measure => simp [intOf]; omega
end Go.Proofs.Ytnjfhpgmogopnaa
