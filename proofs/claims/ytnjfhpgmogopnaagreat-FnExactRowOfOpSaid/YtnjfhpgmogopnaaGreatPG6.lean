/- The targets of the columns of a row, on both sides. No condition but room. RowTargets on both sides. No condition but room. The order of a row's stitches on both sides; the first of each run of needles. No condition but room. Whether a row keeps few loops at every time: plain; the program's sums. No condition. keepsLimit, the program's. No condition. -/
import Derived.Test.YtnjfhpgmogopnaaGreatPG4
import Derived.Test.YtnjfhpgmogopnaaGreatPG5
import Derived.Deep.RegionLaw
namespace Go.Proofs.YtnjfhpgmogopnaaGreat
open Go.ChangeShapes Go.WideShapes Go.ChangeAt Go.RowKit
def ApartB (u v : Value) : Prop := ∀ g, u.ownBlock = some g → v.ownBlock ≠ some g
theorem ApartB.symm {u v : Value} (h : ApartB u v) : ApartB v u := fun g h1 h2 => h g h2 h1
/-- three rows under construction, each in a block of its own, beside two slices of slices that are read -/
structure T3 (w : World) (base lo hi : Nat) (v1 v2 v3 : Value) (x1 x2 x3 : List Int) (s1 s2 : Value) (l1 l2 : List (List Int)) : Prop where
  o1 : OwnI w base v1 x1
  o2 : OwnI w base v2 x2
  o3 : OwnI w base v3 x3
  d12 : ApartB v1 v2
  d13 : ApartB v1 v3
  d23 : ApartB v2 v3
  f1 : Off lo hi v1
  f2 : Off lo hi v2
  f3 : Off lo hi v3
  k1 : IntSS w (New lo hi) s1 l1
  k2 : IntSS w (New lo hi) s2 l2
  le : hi ≤ w.heap.size
section
variable {w w' : World} {base lo hi : Nat} {v1 v2 v3 v' s1 s2 : Value} {x1 x2 x3 y1 : List Int} {l1 l2 : List (List Int)}
theorem T3.rot (h : T3 w base lo hi v1 v2 v3 x1 x2 x3 s1 s2 l1 l2) : T3 w base lo hi v2 v3 v1 x2 x3 x1 s1 s2 l1 l2 :=
  ⟨h.o2, h.o3, h.o1, h.d23, h.d12.symm, h.d13.symm, h.f2, h.f3, h.f1, h.k1, h.k2, h.le⟩
theorem T3.up (h : T3 w base lo hi v1 v2 v3 x1 x2 x3 s1 s2 l1 l2) (g : Up w w') : T3 w' base lo hi v1 v2 v3 x1 x2 x3 s1 s2 l1 l2 :=
  ⟨h.o1.up g, h.o2.up g, h.o3.up g, h.d12, h.d13, h.d23, h.f1, h.f2, h.f3, h.k1.up g, h.k2.up g, Nat.le_trans h.le g.size⟩
theorem T3.off (h : T3 w base lo hi v1 v2 v3 x1 x2 x3 s1 s2 l1 l2) : ∀ b, b < w.heap.size → New lo hi b → ¬ v1.ownBlock = some b := fun b _ hn hb => by
  have := h.f1 b hb
  simp only [New] at hn
  omega
theorem T3.app (h : T3 w base lo hi v1 v2 v3 x1 x2 x3 s1 s2 l1 l2) (ho : OwnI w' base v' y1) (g : Chg (fun b => v1.ownBlock = some b) w w') (hb : ∀ b, v'.ownBlock = some b → v1.ownBlock = some b ∨ w.heap.size ≤ b) :
    T3 w' base lo hi v' v2 v3 y1 x2 x3 s1 s2 l1 l2 :=
  ⟨ho, h.o2.kept g (fun b hb2 h1 => h.d12 b h1 hb2), h.o3.kept g (fun b hb2 h1 => h.d13 b h1 hb2),
   fun b h1 h2 => (hb b h1).elim (fun h3 => h.d12 b h3 h2) (fun h3 => by have := (h.o2.lt h2).2; omega),
   fun b h1 h2 => (hb b h1).elim (fun h3 => h.d13 b h3 h2) (fun h3 => by have := (h.o3.lt h2).2; omega), h.d23,
   fun b h1 => (hb b h1).elim (h.f1 b) (fun h3 => .inr (Nat.le_trans h.le h3)), h.f2, h.f3, h.k1.keep g h.off, h.k2.keep g h.off, Nat.le_trans h.le g.size⟩
theorem T3.ints (h : T3 w base lo hi v1 v2 v3 x1 x2 x3 s1 s2 l1 l2) (g : Chg (fun b => v1.ownBlock = some b) w w') {u : Value} {ys : List Int} (hu : Ints w (New lo hi) u ys) : Ints w' (New lo hi) u ys := hu.keep g h.off
theorem T3.app2 {y2 : List Int} (h : T3 w base lo hi v1 v2 v3 x1 x2 x3 s1 s2 l1 l2) (ho : OwnI w' base v' y2) (g : Chg (fun b => v2.ownBlock = some b) w w') (hb : ∀ b, v'.ownBlock = some b → v2.ownBlock = some b ∨ w.heap.size ≤ b) :
    T3 w' base lo hi v1 v' v3 x1 y2 x3 s1 s2 l1 l2 := ((h.rot.app ho g hb).rot).rot
theorem T3.app3 {y3 : List Int} (h : T3 w base lo hi v1 v2 v3 x1 x2 x3 s1 s2 l1 l2) (ho : OwnI w' base v' y3) (g : Chg (fun b => v3.ownBlock = some b) w w') (hb : ∀ b, v'.ownBlock = some b → v3.ownBlock = some b ∨ w.heap.size ≤ b) :
    T3 w' base lo hi v1 v2 v' x1 x2 y3 s1 s2 l1 l2 := (h.rot.rot.app ho g hb).rot
end
def trTo (k s r : Int) (q : Nat) : List Tr := (List.range q).map (trOne k s r)
theorem trTo_succ (k s r : Int) (q : Nat) : trTo k s r (q + 1) = trTo k s r q ++ [trOne k s r q] := by simp [trTo, List.range_succ]
theorem trTo_all {k : Int} {n : Nat} (h : takenK k = n) (s r : Int) : trAt k s r = trTo k s r n := by unfold trAt trTo; rw [h]; simp
theorem trTo_length (k s r : Int) (q : Nat) : (trTo k s r q).length = q := by simp [trTo]
theorem ownsL_snoc (P : List Tr) (k s r : Int) (q : Nat) : ownsL (P ++ trTo k s r (q + 1)) = ownsL (P ++ trTo k s r q) ++ [2 * (s + q) + 1] := by
  rw [trTo_succ, ← List.append_assoc]
  unfold ownsL trOne
  rw [List.map_append]
  split <;> rfl
theorem togL_one {k : Int} (h : madeK k = 1) (P : List Tr) (s r : Int) (q : Nat) : togL (P ++ trTo k s r (q + 1)) = togL (P ++ trTo k s r q) ++ [2 * s + 1] := by
  rw [trTo_succ, ← List.append_assoc]
  unfold togL trOne
  rw [List.map_append, if_pos h]
  rfl
theorem movL_one {k : Int} (h : madeK k = 1) (P : List Tr) (s r : Int) (q : Nat) : movL (P ++ trTo k s r (q + 1)) = movL (P ++ trTo k s r q) ++ [2 * r + 1] := by
  rw [trTo_succ, ← List.append_assoc]
  unfold movL trOne
  rw [List.map_append, if_pos h]
  rfl
theorem togL_more {k : Int} (h : madeK k ≠ 1) (P : List Tr) (s r : Int) (q : Nat) : togL (P ++ trTo k s r (q + 1)) = togL (P ++ trTo k s r q) ++ [2 * (s + q) + 1] := by
  rw [trTo_succ, ← List.append_assoc]
  unfold togL trOne
  rw [List.map_append, if_neg h]
  rfl
theorem movL_more {k : Int} (h : madeK k ≠ 1) (P : List Tr) (s r : Int) (q : Nat) : movL (P ++ trTo k s r (q + 1)) = movL (P ++ trTo k s r q) ++ [2 * (r + q) + 1] := by
  rw [trTo_succ, ← List.append_assoc]
  unfold movL trOne
  rw [List.map_append, if_neg h]
  rfl
theorem kind_45 {k : Int} (h : k = 4 ∨ k = 5) : madeK k = 1 := by
  unfold madeK; rw [if_neg (by omega), if_neg (by omega)]
/-- a stitch that is neither 'left' nor 'right' and makes one column takes at most one -/
theorem taken_one {k : Int} (h : ¬ (k = 4 ∨ k = 5)) (hm : madeK k = 1) : takenK k ≤ 1 := by
  unfold takenK
  unfold madeK at hm
  split at hm
  · omega
  · split at hm
    · omega
    · split
      · omega
      · rw [if_neg (by omega)]
        first | omega | (split <;> omega)
theorem toglen (P : List Tr) (k s r : Int) (q : Nat) : (ownsL (P ++ trTo k s r q)).length = P.length + q ∧ (togL (P ++ trTo k s r q)).length = P.length + q ∧ (movL (P ++ trTo k s r q)).length = P.length + q := by
  simp [ownsL, togL, movL, trTo]
theorem trL_len_le {xs : List Int} {j : Nat} (h : xs.length ≤ 16) : (trL 0 0 (xs.take j)).length ≤ 64 := by
  have h1 := trL_length (xs.take j) 0 0
  have h2 := (sumF_bd takenK 0 4 (by omega) (fun x => by have := takenK_bd x; omega) (xs.take j)).2
  rw [List.length_take] at h2
  omega
theorem ix_count (a : Int) (n q : Nat) (h : q < n) : ix (countM a n) q = a + q := by
  rw [ix_eq (by rw [countM_len]; exact h), countM_get]
/-- three slices of the call's own, each in a block of its own -/
structure Own3 (w : World) (base : Nat) (v1 v2 v3 : Value) (x1 x2 x3 : List Int) : Prop where
  o1 : OwnI w base v1 x1
  o2 : OwnI w base v2 x2
  o3 : OwnI w base v3 x3
  d12 : ApartB v1 v2
  d13 : ApartB v1 v3
  d23 : ApartB v2 v3
theorem Own3.up {w w' : World} {base : Nat} {v1 v2 v3 : Value} {x1 x2 x3 : List Int} (h : Own3 w base v1 v2 v3 x1 x2 x3) (g : Up w w') : Own3 w' base v1 v2 v3 x1 x2 x3 := ⟨h.o1.up g, h.o2.up g, h.o3.up g, h.d12, h.d13, h.d23⟩
theorem OwnI.lower {w : World} {base b2 : Nat} {v : Value} {xs : List Int} (h : OwnI w base v xs) (hb : b2 ≤ base) : OwnI w b2 v xs := by
  obtain ⟨⟨h1, h2⟩, h3⟩ := h
  refine ⟨⟨h1, ?_⟩, h3⟩
  rcases h2 with h2 | ⟨g, cap, cur, rfl, hg, r⟩
  · exact .inl h2
  · exact .inr ⟨g, cap, cur, rfl, Nat.le_trans hb hg, r⟩
set_option maxRecDepth 100000 in
set_option maxHeartbeats 16000000 in
theorem targets_any (w : World) (S : Nat → Prop) (v : Value) (r : RowM) (h : RowV w S v r) (hs : stB r.xs = true) :
    Calls Tryz.prog 79 #[v] w fun e w' => ∃ v1 v2 v3, e = .returned (.tuple #[v1, v2, v3]) ∧ Own3 w' w.heap.size v1 v2 v3 (ownsL (trL 0 0 r.xs)) (togL (trL 0 0 r.xs)) (movL (trL 0 0 r.xs)) ∧ Up w w' := by
  obtain ⟨A, c, rfl, h4, h5, h6⟩ := openRow h
  have U0 := Lib.hid (Chg.refl Nowhere w)
  have HI := Lib.hid h
  have HI4 := Lib.hid h4
  have HS := Lib.hid hs
  have hl := stB_len hs
  have HK := Lib.hid (stB_kind hs)
  clear h4 h hs
  have U_1 := Lib.hid (Chg.trans U0.out ((Chg.refl Nowhere w).alloc (.cells #[.int .i64 r.d, .int .i64 r.c, .slice A r.xs.length c] 72)))
  clear U0
  have I_2 := Lib.hid (HI.out.up ((Chg.refl Nowhere w).alloc (.cells #[.int .i64 r.d, .int .i64 r.c, .slice A r.xs.length c] 72)))
  clear HI
  have J_3 := Lib.hid (HI4.out.up ((Chg.refl Nowhere w).alloc (.cells #[.int .i64 r.d, .int .i64 r.c, .slice A r.xs.length c] 72)))
  clear HI4
  have q0_4 := (show (w.alloc (.cells #[.int .i64 r.d, .int .i64 r.c, .slice A r.xs.length c] 72)).cell? ⟨w.heap.size, 0, none⟩ = some (.int .i64 r.d) from cell_new _ _ _ _)
  have q1_5 := (show (w.alloc (.cells #[.int .i64 r.d, .int .i64 r.c, .slice A r.xs.length c] 72)).cell? ⟨w.heap.size, 1, none⟩ = some (.int .i64 r.c) from cell_new _ _ _ _)
  have q2_6 := (show (w.alloc (.cells #[.int .i64 r.d, .int .i64 r.c, .slice A r.xs.length c] 72)).cell? ⟨w.heap.size, 2, none⟩ = some (.slice A r.xs.length c) from cell_new _ _ _ _)
  have hbx7 : w.heap.size < (w.alloc (.cells #[.int .i64 r.d, .int .i64 r.c, .slice A r.xs.length c] 72)).heap.size := by simp
  go_enter Tryz.func79, Tryz.ntmps79
  go_wp2_with fail
  refine (results_any _ S _ r (I_2.out.up (by repeat (first | exact Chg.refl _ _ | apply Chg.drew | apply Chg.drewN | refine Chg.alloc ?_ _))) HS.out).mono ?_
  rintro e w8 ⟨v8, rfl, k1, g1⟩
  obtain ⟨A8, c8, rfl, hl8, hc8, -⟩ := k1.shape
  have K1 := Lib.hid k1
  clear k1
  have G1 := Lib.hid g1
  obtain ⟨hy8, hz8⟩ := up_pre (show Up (w.alloc (.cells #[.int .i64 r.d, .int .i64 r.c, .slice A r.xs.length c] 72)) _ from (by repeat (first | exact Chg.refl _ _ | apply Chg.drew | apply Chg.drewN | refine Chg.alloc ?_ _))) G1.out
  clear g1
  have U_9 := Lib.hid (Chg.trans U_1.out (Chg.trans (by repeat (first | exact Chg.refl _ _ | apply Chg.drew | apply Chg.drewN | refine Chg.alloc ?_ _)) G1.out))
  clear U_1
  have I_10 := Lib.hid (I_2.out.up (Chg.trans (by repeat (first | exact Chg.refl _ _ | apply Chg.drew | apply Chg.drewN | refine Chg.alloc ?_ _)) G1.out))
  clear I_2
  have J_11 := Lib.hid (J_3.out.up (Chg.trans (by repeat (first | exact Chg.refl _ _ | apply Chg.drew | apply Chg.drewN | refine Chg.alloc ?_ _)) G1.out))
  clear J_3
  have q0_12 := Chg.cell (Chg.trans (by repeat (first | exact Chg.refl _ _ | apply Chg.drew | apply Chg.drewN | refine Chg.alloc ?_ _)) G1.out) q0_4 id
  clear q0_4
  have q1_13 := Chg.cell (Chg.trans (by repeat (first | exact Chg.refl _ _ | apply Chg.drew | apply Chg.drewN | refine Chg.alloc ?_ _)) G1.out) q1_5 id
  clear q1_5
  have q2_14 := Chg.cell (Chg.trans (by repeat (first | exact Chg.refl _ _ | apply Chg.drew | apply Chg.drewN | refine Chg.alloc ?_ _)) G1.out) q2_6 id
  clear q2_6
  clear G1
  have L_15 := Lib.hid (K1.out)
  clear K1
  go_wp2_with fail
  refine (sources_any _ S _ r (I_10.out.up (by repeat (first | exact Chg.refl _ _ | apply Chg.drew | apply Chg.drewN | refine Chg.alloc ?_ _))) HS.out).mono ?_
  rintro e w16 ⟨v16, rfl, k1, g1⟩
  obtain ⟨A16, c16, rfl, hl16, hc16, -⟩ := k1.shape
  have K1 := Lib.hid k1
  clear k1
  have G1 := Lib.hid g1
  obtain ⟨hy16, hz16⟩ := up_pre (show Up w8 _ from (by repeat (first | exact Chg.refl _ _ | apply Chg.drew | apply Chg.drewN | refine Chg.alloc ?_ _))) G1.out
  clear g1
  have U_17 := Lib.hid (Chg.trans U_9.out (Chg.trans (by repeat (first | exact Chg.refl _ _ | apply Chg.drew | apply Chg.drewN | refine Chg.alloc ?_ _)) G1.out))
  clear U_9
  have I_18 := Lib.hid (I_10.out.up (Chg.trans (by repeat (first | exact Chg.refl _ _ | apply Chg.drew | apply Chg.drewN | refine Chg.alloc ?_ _)) G1.out))
  clear I_10
  have J_19 := Lib.hid (J_11.out.up (Chg.trans (by repeat (first | exact Chg.refl _ _ | apply Chg.drew | apply Chg.drewN | refine Chg.alloc ?_ _)) G1.out))
  clear J_11
  have q0_20 := Chg.cell (Chg.trans (by repeat (first | exact Chg.refl _ _ | apply Chg.drew | apply Chg.drewN | refine Chg.alloc ?_ _)) G1.out) q0_12 id
  clear q0_12
  have q1_21 := Chg.cell (Chg.trans (by repeat (first | exact Chg.refl _ _ | apply Chg.drew | apply Chg.drewN | refine Chg.alloc ?_ _)) G1.out) q1_13 id
  clear q1_13
  have q2_22 := Chg.cell (Chg.trans (by repeat (first | exact Chg.refl _ _ | apply Chg.drew | apply Chg.drewN | refine Chg.alloc ?_ _)) G1.out) q2_14 id
  clear q2_14
  have L_23 := Lib.hid (L_15.out.up (Chg.trans (by repeat (first | exact Chg.refl _ _ | apply Chg.drew | apply Chg.drewN | refine Chg.alloc ?_ _)) G1.out))
  clear L_15
  clear G1
  have K_24 := Lib.hid (K1.out)
  clear K1
  have hT0 := Lib.hid (show T3 w16 w16.heap.size w.heap.size w16.heap.size (.slice none 0 0) (.slice none 0 0) (.slice none 0 0) (ownsL (trL 0 0 (r.xs.take 0))) (togL (trL 0 0 (r.xs.take 0))) (movL (trL 0 0 (r.xs.take 0))) _ _ _ _ from ⟨OwnI.nil _ _, OwnI.nil _ _, OwnI.nil _ _, fun g h => by simp [Value.ownBlock] at h, fun g h => by simp [Value.ownBlock] at h, fun g h => by simp [Value.ownBlock] at h, fun g h => by simp [Value.ownBlock] at h, fun g h => by simp [Value.ownBlock] at h, fun g h => by simp [Value.ownBlock] at h, K_24.out.mono (fun b hb => ⟨by have := hb.1; simp at *; omega, by have := hb.2; simp at *; omega⟩), L_23.out.mono (fun b hb => ⟨by have := hb.1; simp at *; omega, by have := hb.2; simp at *; omega⟩), Nat.le_refl _⟩)
  have UA := U_17
  have JA := J_19
  have QA := q2_22
  have hlm1 := listsM_length takenK 0 r.xs
  have hlm2 := listsM_length madeK 0 r.xs
  go_wp2
  go_loopw [2, 3, 4, 6, 7, 8, 9, 10, 16] (fun v1 v2 v3 _ _ _ _ _ i wr => ∃ j : Nat, j ≤ r.xs.length ∧ i = .int .i64 j ∧ Hid (T3 wr w16.heap.size w.heap.size w16.heap.size v1 v2 v3 (ownsL (trL 0 0 (r.xs.take j))) (togL (trL 0 0 (r.xs.take j))) (movL (trL 0 0 (r.xs.take j))) (.slice A16 (listsM takenK 0 r.xs).length c16) (.slice A8 (listsM madeK 0 r.xs).length c8) (listsM takenK 0 r.xs) (listsM madeK 0 r.xs)) ∧ Hid (Up w16 wr)) (fun _ _ _ _ _ _ _ _ i _ => r.xs.length - (intOf i).toNat)
  case atStart => exact ⟨0, by omega, rfl, hT0.out, Chg.refl _ _⟩
  clear hT0
  case round =>
    obtain ⟨j, hj, rfl, ho, hg⟩ := hrel
    by_cases hlt : j < r.xs.length
    rotate_left
    · obtain rfl : j = r.xs.length := by omega
      have hjl : ¬ ((r.xs.length : Int) < (listsM takenK 0 r.xs).length) := by rw [hlm1]; omega
      have HX := Lib.hid (show r.xs.take r.xs.length = r.xs by rw [List.take_length])
      have HO := Lib.hid ho.out
      clear ho
      rw [HX.out] at HO
      go_wp2
      go_ret3
      exact ⟨_, _, _, rfl, ⟨HO.out.o1.lower UA.out.size, HO.out.o2.lower UA.out.size, HO.out.o3.lower UA.out.size, HO.out.d12, HO.out.d13, HO.out.d23⟩, Chg.trans UA.out hg.out⟩
    have hj1 : j < (listsM takenK 0 r.xs).length := by rw [hlm1]; exact hlt
    have hj2 : j < (listsM madeK 0 r.xs).length := by rw [hlm2]; exact hlt
    have hj1i : (j : Int) < (listsM takenK 0 r.xs).length := by omega
    have hj2i : (j : Int) < (listsM madeK 0 r.xs).length := by omega
    obtain ⟨n, hn⟩ := Int.eq_ofNat_of_zero_le (takenK_bd r.xs[j]).1
    obtain ⟨m, hm⟩ := Int.eq_ofNat_of_zero_le (show 0 ≤ madeK r.xs[j] by have := madeK_bd r.xs[j]; omega)
    have hnb := takenK_bd r.xs[j]
    have hmb := madeK_bd r.xs[j]
    rw [hn] at hnb
    rw [hm] at hmb
    have hG1 := listsM_get takenK 0 r.xs j hlt
    have hG2 := listsM_get madeK 0 r.xs j hlt
    rw [Int.zero_add, hn] at hG1
    rw [Int.zero_add, hm] at hG2
    have hb1 := sumF_bd takenK 0 4 (by omega) (fun x => by have := takenK_bd x; omega) (r.xs.take j)
    have hb2 := sumF_bd madeK 0 4 (by omega) (fun x => by have := madeK_bd x; omega) (r.xs.take j)
    rw [List.length_take, Nat.min_eq_left hj] at hb1 hb2
    have hT := trL_take hlt
    rw [trTo_all hn] at hT
    generalize hsv : sumF takenK (r.xs.take j) = sv at *
    generalize hrv : sumF madeK (r.xs.take j) = rv at *
    have hPl := trL_len_le (xs := r.xs) (j := j) hl
    have HP := Lib.hid hT
    have HG1 := Lib.hid hG1
    have HG2 := Lib.hid hG2
    have HN := Lib.hid hn
    have HM := Lib.hid hm
    have HR1 := Lib.hid hsv
    have HR2 := Lib.hid hrv
    clear hT hG1 hG2 hn hm hsv hrv
    generalize hP : trL 0 0 (r.xs.take j) = P at *
    have HPP := Lib.hid hP
    clear hP
    have hsz := hg.out.size
    have hszl := ho.out.le
    obtain ⟨b, o, c', B, ci, he, hbS, hbl, g3, k3, h31, h32⟩ := ho.out.k1.at_ hj1
    obtain ⟨rfl, rfl⟩ : A16 = some ⟨b, o, none⟩ ∧ c16 = c' := by simpa using he
    have K3 := Lib.hid k3
    clear he k3
    rw [HG1.out] at g3 K3 h31
    rw [countM_len] at g3 K3 h31
    obtain ⟨wo, rfl⟩ : ∃ wo : World, wo = wr := ⟨_, rfl⟩
    go_wp2
    go_loopw [2, 3, 4, 8, 9, 10, 23] (fun v1 v2 v3 _ _ _ i wr => ∃ t : Nat, t ≤ n ∧ i = .int .i64 t ∧ Hid (T3 wr w16.heap.size w.heap.size w16.heap.size v1 v2 v3 (ownsL (P ++ trTo r.xs[j] sv rv t)) (togL (P ++ trTo r.xs[j] sv rv t)) (movL (P ++ trTo r.xs[j] sv rv t)) (.slice (some ⟨b, o, none⟩) (listsM takenK 0 r.xs).length c16) (.slice A8 (listsM madeK 0 r.xs).length c8) (listsM takenK 0 r.xs) (listsM madeK 0 r.xs)) ∧ Hid (Up w16 wr) ∧ Hid (Ints wr (New w.heap.size w16.heap.size) (.slice B n ci) (countM sv n))) (fun _ _ _ _ _ _ i _ => n - (intOf i).toNat)
    case atStart => exact ⟨0, by omega, rfl, by simpa [trTo, Hid] using ho, hg, K3⟩
    clear ho hg K3 g3
    case round =>
      obtain ⟨t, ht, rfl, ho, hg, hK⟩ := hrel
      have hsz := hg.out.size
      by_cases hlt2 : t < n
      rotate_left
      · obtain rfl : t = n := by omega
        go_wp2
        go_roundw
        case rel => exact ⟨j + 1, by omega, by go_num, by rw [HP.out]; exact ho, hg⟩
        case measure => simp [intOf]; omega
      have HL1 := Lib.hid (show (ownsL (P ++ trTo r.xs[j] sv rv t)).length ≤ 1099511627776 by have := toglen P r.xs[j] sv rv t; omega)
      have HL2 := Lib.hid (show (togL (P ++ trTo r.xs[j] sv rv t)).length ≤ 1099511627776 by have := toglen P r.xs[j] sv rv t; omega)
      have HL3 := Lib.hid (show (movL (P ++ trTo r.xs[j] sv rv t)).length ≤ 1099511627776 by have := toglen P r.xs[j] sv rv t; omega)
      have HV1 := Lib.hid (show I64 (2 * (sv + t) + 1) by unfold I64; omega)
      have HV2 := Lib.hid (show I64 (2 * sv + 1) by unfold I64; omega)
      have HV3 := Lib.hid (show I64 (2 * rv + 1) by unfold I64; omega)
      have HV4 := Lib.hid (show I64 (2 * (rv + t) + 1) by unfold I64; omega)
      obtain ⟨z1b, z1o, z1A, -, z1c⟩ := Ints.ix (A := B) (c := ci) (xs := countM sv n) (by rw [countM_len]; exact hK.out) (i := t) (by rw [countM_len]; exact hlt2)
      subst z1A
      have z1f := z1c t (by rw [countM_len]; exact hlt2)
      rw [ix_count sv n t hlt2] at z1f
      clear z1c
      go_wp2_with fail
      refine (needleOf_any _ _ ⟨by omega, by omega⟩).mono ?_
      rintro e w' ⟨rfl, rfl⟩
      clear z1f
      by_cases h45 : r.xs[j] = 4 ∨ r.xs[j] = 5
      · skip
        have hM := kind_45 h45
        have h4 : (r.xs[j] == 4) = true ∨ (r.xs[j] == 4) = false ∧ (r.xs[j] == 5) = true := by by_cases h : r.xs[j] = 4 <;> simp_all
        have hm1 : (m : Int) = 1 := by rw [← HM.out]; exact hM
        have hm0 : 0 < m := by omega
        have HMM := Lib.hid hM
        clear h45 hM
        rcases h4 with h4 | ⟨h4, h5⟩
        · skip
          go_wp2_with (first | (at_builtin; refine wp_append_int2 rfl _ _ rfl w16.heap.size _ (ownsL (P ++ trTo r.xs[j] sv rv t)) rfl (ho.out.o1.alloc _) _ (2 * (sv + t) + 1) rfl (cell_new _ _ _ _) HV1.out HL1.out ?_ ?_; (simp; omega); intro v2 w2 ho1 ho2 ho3 hg1; have B1_2 := Lib.hid ho1; have B2_2 := Lib.hid ho2; have B3_2 := Lib.hid ho3; have B4_2 := Lib.hid hg1; clear ho1 ho2 ho3 hg1; have T_2 := Lib.hid (T3.app (ho.out.up ((Chg.refl Nowhere _).alloc _)) B1_2.out B2_2.out B3_2.out); have U_2 := Lib.hid (Chg.new (hg.out.trans ((Chg.refl Nowhere _).alloc _)) B4_2.out (fun i hi => by omega)); have K_2 := Lib.hid (T3.ints (ho.out.up ((Chg.refl Nowhere _).alloc _)) B2_2.out (hK.out.up ((Chg.refl Nowhere _).alloc _))); have hs_2 := U_2.out.size; have hle_2 := T_2.out.le; clear B1_2 B2_2 B3_2 B4_2 ho hg hK; obtain ⟨z3b, z3o, z3A, -, z3c⟩ := JA.out.ix hlt; subst z3A; have z3f := Chg.cell U_2.out (z3c j hlt) id; rw [ix_eq hlt] at z3f; have z3g := Chg.cell U_2.out QA id; clear z3c; obtain ⟨z4b, z4o, z4A, -, z4c⟩ := Ints.ix (A := some ⟨z1b, z1o, none⟩) (c := ci) (xs := countM sv n) (by rw [countM_len]; exact K_2.out) (i := 0) (by rw [countM_len]; exact (show 0 < n by omega)); obtain ⟨rfl, rfl⟩ : z1b = z4b ∧ z1o = z4o := (by simpa using z4A); have z4f := z4c 0 (by rw [countM_len]; exact (show 0 < n by omega)); rw [ix_count sv n 0 (show 0 < n by omega)] at z4f; clear z4c; rw [show sv + ((0 : Nat) : Int) = sv by omega, Nat.add_zero] at z4f))
          refine (needleOf_any _ _ ⟨by omega, by omega⟩).mono ?_
          rintro e w' ⟨rfl, rfl⟩
          clear z3f z3g z4f
          go_wp2_with (first | (at_builtin; refine wp_append_int2 rfl _ _ rfl w16.heap.size _ (togL (P ++ trTo r.xs[j] sv rv t)) rfl (T_2.out.o2.alloc _) _ (2 * sv + 1) rfl (cell_new _ _ _ _) HV2.out HL2.out ?_ ?_; (simp; omega); intro v5 w5 ho1 ho2 ho3 hg1; have B1_5 := Lib.hid ho1; have B2_5 := Lib.hid ho2; have B3_5 := Lib.hid ho3; have B4_5 := Lib.hid hg1; clear ho1 ho2 ho3 hg1; have T_5 := Lib.hid (T3.app2 (T_2.out.up ((Chg.refl Nowhere _).alloc _)) B1_5.out B2_5.out B3_5.out); have U_5 := Lib.hid (Chg.new (U_2.out.trans ((Chg.refl Nowhere _).alloc _)) B4_5.out (fun i hi => by omega)); have K_5 := Lib.hid (T3.ints (T_2.out.up ((Chg.refl Nowhere _).alloc _)).rot B2_5.out (K_2.out.up ((Chg.refl Nowhere _).alloc _))); have hs_5 := U_5.out.size; have hle_5 := T_5.out.le; clear B1_5 B2_5 B3_5 B4_5 T_2 U_2 K_2; obtain ⟨z6b, z6o, z6c, z6B, z6i, z6he, -, -, z6f, z6k, z6h1, z6h2⟩ := T_5.out.k2.at_ hj2; obtain ⟨rfl, rfl⟩ : A8 = some ⟨z6b, z6o, none⟩ ∧ c8 = z6c := (by simpa using z6he); rw [HG2.out] at z6f z6k z6h1; rw [countM_len] at z6f z6k z6h1; obtain ⟨z7b, z7o, z7A, -, z7c⟩ := Ints.ix (A := z6B) (c := z6i) (xs := countM rv m) (by rw [countM_len]; exact z6k) (i := 0) (by rw [countM_len]; exact hm0); subst z7A; have z7f := z7c 0 (by rw [countM_len]; exact hm0); rw [ix_count rv m 0 hm0] at z7f; clear z7c; rw [show rv + ((0 : Nat) : Int) = rv by omega, Nat.add_zero] at z7f; clear z6he z6k))
          refine (needleOf_any _ _ ⟨by omega, by omega⟩).mono ?_
          rintro e w' ⟨rfl, rfl⟩
          clear z6f z7f
          go_wp2_with (first | (at_builtin; refine wp_append_int2 rfl _ _ rfl w16.heap.size _ (movL (P ++ trTo r.xs[j] sv rv t)) rfl (T_5.out.o3.alloc _) _ (2 * rv + 1) rfl (cell_new _ _ _ _) HV3.out HL3.out ?_ ?_; (simp; omega); intro v8 w8 ho1 ho2 ho3 hg1; have B1_8 := Lib.hid ho1; have B2_8 := Lib.hid ho2; have B3_8 := Lib.hid ho3; have B4_8 := Lib.hid hg1; clear ho1 ho2 ho3 hg1; have T_8 := Lib.hid (T3.app3 (T_5.out.up ((Chg.refl Nowhere _).alloc _)) B1_8.out B2_8.out B3_8.out); have U_8 := Lib.hid (Chg.new (U_5.out.trans ((Chg.refl Nowhere _).alloc _)) B4_8.out (fun i hi => by omega)); have K_8 := Lib.hid (T3.ints (T_5.out.up ((Chg.refl Nowhere _).alloc _)).rot.rot B2_8.out (K_5.out.up ((Chg.refl Nowhere _).alloc _))); have hs_8 := U_8.out.size; have hle_8 := T_8.out.le; clear B1_8 B2_8 B3_8 B4_8 T_5 U_5 K_5))
          have E1 := Lib.hid (ownsL_snoc P r.xs[j] sv rv t)
          have E2 := Lib.hid (togL_one HMM.out P sv rv t)
          have E3 := Lib.hid (movL_one HMM.out P sv rv t)
          go_roundw
          case rel => exact ⟨t + 1, by omega, by go_num, by rw [E1.out, E2.out, E3.out]; exact T_8, U_8, K_8⟩
          case measure => simp [intOf]; omega
        · skip
          go_wp2_with (first | (at_builtin; refine wp_append_int2 rfl _ _ rfl w16.heap.size _ (ownsL (P ++ trTo r.xs[j] sv rv t)) rfl (ho.out.o1.alloc _) _ (2 * (sv + t) + 1) rfl (cell_new _ _ _ _) HV1.out HL1.out ?_ ?_; (simp; omega); intro v2 w2 ho1 ho2 ho3 hg1; have B1_2 := Lib.hid ho1; have B2_2 := Lib.hid ho2; have B3_2 := Lib.hid ho3; have B4_2 := Lib.hid hg1; clear ho1 ho2 ho3 hg1; have T_2 := Lib.hid (T3.app (ho.out.up ((Chg.refl Nowhere _).alloc _)) B1_2.out B2_2.out B3_2.out); have U_2 := Lib.hid (Chg.new (hg.out.trans ((Chg.refl Nowhere _).alloc _)) B4_2.out (fun i hi => by omega)); have K_2 := Lib.hid (T3.ints (ho.out.up ((Chg.refl Nowhere _).alloc _)) B2_2.out (hK.out.up ((Chg.refl Nowhere _).alloc _))); have hs_2 := U_2.out.size; have hle_2 := T_2.out.le; clear B1_2 B2_2 B3_2 B4_2 ho hg hK; obtain ⟨z3b, z3o, z3A, -, z3c⟩ := JA.out.ix hlt; subst z3A; have z3f := Chg.cell U_2.out (z3c j hlt) id; rw [ix_eq hlt] at z3f; have z3g := Chg.cell U_2.out QA id; clear z3c; obtain ⟨z4b, z4o, z4A, -, z4c⟩ := Ints.ix (A := some ⟨z1b, z1o, none⟩) (c := ci) (xs := countM sv n) (by rw [countM_len]; exact K_2.out) (i := 0) (by rw [countM_len]; exact (show 0 < n by omega)); obtain ⟨rfl, rfl⟩ : z1b = z4b ∧ z1o = z4o := (by simpa using z4A); have z4f := z4c 0 (by rw [countM_len]; exact (show 0 < n by omega)); rw [ix_count sv n 0 (show 0 < n by omega)] at z4f; clear z4c; rw [show sv + ((0 : Nat) : Int) = sv by omega, Nat.add_zero] at z4f))
          refine (needleOf_any _ _ ⟨by omega, by omega⟩).mono ?_
          rintro e w' ⟨rfl, rfl⟩
          clear z3f z3g z4f
          go_wp2_with (first | (at_builtin; refine wp_append_int2 rfl _ _ rfl w16.heap.size _ (togL (P ++ trTo r.xs[j] sv rv t)) rfl (T_2.out.o2.alloc _) _ (2 * sv + 1) rfl (cell_new _ _ _ _) HV2.out HL2.out ?_ ?_; (simp; omega); intro v5 w5 ho1 ho2 ho3 hg1; have B1_5 := Lib.hid ho1; have B2_5 := Lib.hid ho2; have B3_5 := Lib.hid ho3; have B4_5 := Lib.hid hg1; clear ho1 ho2 ho3 hg1; have T_5 := Lib.hid (T3.app2 (T_2.out.up ((Chg.refl Nowhere _).alloc _)) B1_5.out B2_5.out B3_5.out); have U_5 := Lib.hid (Chg.new (U_2.out.trans ((Chg.refl Nowhere _).alloc _)) B4_5.out (fun i hi => by omega)); have K_5 := Lib.hid (T3.ints (T_2.out.up ((Chg.refl Nowhere _).alloc _)).rot B2_5.out (K_2.out.up ((Chg.refl Nowhere _).alloc _))); have hs_5 := U_5.out.size; have hle_5 := T_5.out.le; clear B1_5 B2_5 B3_5 B4_5 T_2 U_2 K_2; obtain ⟨z6b, z6o, z6c, z6B, z6i, z6he, -, -, z6f, z6k, z6h1, z6h2⟩ := T_5.out.k2.at_ hj2; obtain ⟨rfl, rfl⟩ : A8 = some ⟨z6b, z6o, none⟩ ∧ c8 = z6c := (by simpa using z6he); rw [HG2.out] at z6f z6k z6h1; rw [countM_len] at z6f z6k z6h1; obtain ⟨z7b, z7o, z7A, -, z7c⟩ := Ints.ix (A := z6B) (c := z6i) (xs := countM rv m) (by rw [countM_len]; exact z6k) (i := 0) (by rw [countM_len]; exact hm0); subst z7A; have z7f := z7c 0 (by rw [countM_len]; exact hm0); rw [ix_count rv m 0 hm0] at z7f; clear z7c; rw [show rv + ((0 : Nat) : Int) = rv by omega, Nat.add_zero] at z7f; clear z6he z6k))
          refine (needleOf_any _ _ ⟨by omega, by omega⟩).mono ?_
          rintro e w' ⟨rfl, rfl⟩
          clear z6f z7f
          go_wp2_with (first | (at_builtin; refine wp_append_int2 rfl _ _ rfl w16.heap.size _ (movL (P ++ trTo r.xs[j] sv rv t)) rfl (T_5.out.o3.alloc _) _ (2 * rv + 1) rfl (cell_new _ _ _ _) HV3.out HL3.out ?_ ?_; (simp; omega); intro v8 w8 ho1 ho2 ho3 hg1; have B1_8 := Lib.hid ho1; have B2_8 := Lib.hid ho2; have B3_8 := Lib.hid ho3; have B4_8 := Lib.hid hg1; clear ho1 ho2 ho3 hg1; have T_8 := Lib.hid (T3.app3 (T_5.out.up ((Chg.refl Nowhere _).alloc _)) B1_8.out B2_8.out B3_8.out); have U_8 := Lib.hid (Chg.new (U_5.out.trans ((Chg.refl Nowhere _).alloc _)) B4_8.out (fun i hi => by omega)); have K_8 := Lib.hid (T3.ints (T_5.out.up ((Chg.refl Nowhere _).alloc _)).rot.rot B2_8.out (K_5.out.up ((Chg.refl Nowhere _).alloc _))); have hs_8 := U_8.out.size; have hle_8 := T_8.out.le; clear B1_8 B2_8 B3_8 B4_8 T_5 U_5 K_5))
          have E1 := Lib.hid (ownsL_snoc P r.xs[j] sv rv t)
          have E2 := Lib.hid (togL_one HMM.out P sv rv t)
          have E3 := Lib.hid (movL_one HMM.out P sv rv t)
          go_roundw
          case rel => exact ⟨t + 1, by omega, by go_num, by rw [E1.out, E2.out, E3.out]; exact T_8, U_8, K_8⟩
          case measure => simp [intOf]; omega
      · skip
        have h4 : (r.xs[j] == 4) = false := by rw [beq_eq_false_iff_ne]; exact fun h => h45 (.inl h)
        have h5 : (r.xs[j] == 5) = false := by rw [beq_eq_false_iff_ne]; exact fun h => h45 (.inr h)
        have hltm : t < m := by
          by_cases hM : madeK r.xs[j] = 1
          · have := taken_one h45 hM; rw [HN.out] at this; rw [HM.out] at hM; omega
          · have := taken_made hM; rw [HN.out, HM.out] at this; omega
        have hsel : (madeK r.xs[j] = 1 ∧ t = 0) ∨ madeK r.xs[j] ≠ 1 := by
          by_cases hM : madeK r.xs[j] = 1
          · have := taken_one h45 hM; rw [HN.out] at this; exact .inl ⟨hM, by omega⟩
          · exact .inr hM
        have HSEL := Lib.hid hsel
        clear h45 hsel
        go_wp2_with (first | (at_builtin; refine wp_append_int2 rfl _ _ rfl w16.heap.size _ (ownsL (P ++ trTo r.xs[j] sv rv t)) rfl (ho.out.o1.alloc _) _ (2 * (sv + t) + 1) rfl (cell_new _ _ _ _) HV1.out HL1.out ?_ ?_; (simp; omega); intro v2 w2 ho1 ho2 ho3 hg1; have B1_2 := Lib.hid ho1; have B2_2 := Lib.hid ho2; have B3_2 := Lib.hid ho3; have B4_2 := Lib.hid hg1; clear ho1 ho2 ho3 hg1; have T_2 := Lib.hid (T3.app (ho.out.up ((Chg.refl Nowhere _).alloc _)) B1_2.out B2_2.out B3_2.out); have U_2 := Lib.hid (Chg.new (hg.out.trans ((Chg.refl Nowhere _).alloc _)) B4_2.out (fun i hi => by omega)); have K_2 := Lib.hid (T3.ints (ho.out.up ((Chg.refl Nowhere _).alloc _)) B2_2.out (hK.out.up ((Chg.refl Nowhere _).alloc _))); have hs_2 := U_2.out.size; have hle_2 := T_2.out.le; clear B1_2 B2_2 B3_2 B4_2 ho hg hK; obtain ⟨z3b, z3o, z3A, -, z3c⟩ := JA.out.ix hlt; subst z3A; have z3f := Chg.cell U_2.out (z3c j hlt) id; rw [ix_eq hlt] at z3f; have z3g := Chg.cell U_2.out QA id; clear z3c; obtain ⟨z4b, z4o, z4A, -, z4c⟩ := Ints.ix (A := some ⟨z1b, z1o, none⟩) (c := ci) (xs := countM sv n) (by rw [countM_len]; exact K_2.out) (i := t) (by rw [countM_len]; exact hlt2); obtain ⟨rfl, rfl⟩ : z1b = z4b ∧ z1o = z4o := (by simpa using z4A); have z4f := z4c t (by rw [countM_len]; exact hlt2); rw [ix_count sv n t hlt2] at z4f; clear z4c))
        refine (needleOf_any _ _ ⟨by omega, by omega⟩).mono ?_
        rintro e w' ⟨rfl, rfl⟩
        clear z3f z3g z4f
        go_wp2_with (first | (at_builtin; refine wp_append_int2 rfl _ _ rfl w16.heap.size _ (togL (P ++ trTo r.xs[j] sv rv t)) rfl (T_2.out.o2.alloc _) _ (2 * (sv + t) + 1) rfl (cell_new _ _ _ _) HV1.out HL2.out ?_ ?_; (simp; omega); intro v5 w5 ho1 ho2 ho3 hg1; have B1_5 := Lib.hid ho1; have B2_5 := Lib.hid ho2; have B3_5 := Lib.hid ho3; have B4_5 := Lib.hid hg1; clear ho1 ho2 ho3 hg1; have T_5 := Lib.hid (T3.app2 (T_2.out.up ((Chg.refl Nowhere _).alloc _)) B1_5.out B2_5.out B3_5.out); have U_5 := Lib.hid (Chg.new (U_2.out.trans ((Chg.refl Nowhere _).alloc _)) B4_5.out (fun i hi => by omega)); have K_5 := Lib.hid (T3.ints (T_2.out.up ((Chg.refl Nowhere _).alloc _)).rot B2_5.out (K_2.out.up ((Chg.refl Nowhere _).alloc _))); have hs_5 := U_5.out.size; have hle_5 := T_5.out.le; clear B1_5 B2_5 B3_5 B4_5 T_2 U_2 K_2; obtain ⟨z6b, z6o, z6c, z6B, z6i, z6he, -, -, z6f, z6k, z6h1, z6h2⟩ := T_5.out.k2.at_ hj2; obtain ⟨rfl, rfl⟩ : A8 = some ⟨z6b, z6o, none⟩ ∧ c8 = z6c := (by simpa using z6he); rw [HG2.out] at z6f z6k z6h1; rw [countM_len] at z6f z6k z6h1; obtain ⟨z7b, z7o, z7A, -, z7c⟩ := Ints.ix (A := z6B) (c := z6i) (xs := countM rv m) (by rw [countM_len]; exact z6k) (i := t) (by rw [countM_len]; exact hltm); subst z7A; have z7f := z7c t (by rw [countM_len]; exact hltm); rw [ix_count rv m t hltm] at z7f; clear z7c; clear z6he z6k))
        refine (needleOf_any _ _ ⟨by omega, by omega⟩).mono ?_
        rintro e w' ⟨rfl, rfl⟩
        clear z6f z7f
        go_wp2_with (first | (at_builtin; refine wp_append_int2 rfl _ _ rfl w16.heap.size _ (movL (P ++ trTo r.xs[j] sv rv t)) rfl (T_5.out.o3.alloc _) _ (2 * (rv + t) + 1) rfl (cell_new _ _ _ _) HV4.out HL3.out ?_ ?_; (simp; omega); intro v8 w8 ho1 ho2 ho3 hg1; have B1_8 := Lib.hid ho1; have B2_8 := Lib.hid ho2; have B3_8 := Lib.hid ho3; have B4_8 := Lib.hid hg1; clear ho1 ho2 ho3 hg1; have T_8 := Lib.hid (T3.app3 (T_5.out.up ((Chg.refl Nowhere _).alloc _)) B1_8.out B2_8.out B3_8.out); have U_8 := Lib.hid (Chg.new (U_5.out.trans ((Chg.refl Nowhere _).alloc _)) B4_8.out (fun i hi => by omega)); have K_8 := Lib.hid (T3.ints (T_5.out.up ((Chg.refl Nowhere _).alloc _)).rot.rot B2_8.out (K_5.out.up ((Chg.refl Nowhere _).alloc _))); have hs_8 := U_8.out.size; have hle_8 := T_8.out.le; clear B1_8 B2_8 B3_8 B4_8 T_5 U_5 K_5))
        have E1 := Lib.hid (ownsL_snoc P r.xs[j] sv rv t)
        have E2 := Lib.hid (show togL (P ++ trTo r.xs[j] sv rv (t + 1)) = togL (P ++ trTo r.xs[j] sv rv t) ++ [2 * (sv + t) + 1] by
          rcases HSEL.out with ⟨h1, rfl⟩ | h1
          · rw [togL_one h1]; simp
          · rw [togL_more h1])
        have E3 := Lib.hid (show movL (P ++ trTo r.xs[j] sv rv (t + 1)) = movL (P ++ trTo r.xs[j] sv rv t) ++ [2 * (rv + t) + 1] by
          rcases HSEL.out with ⟨h1, rfl⟩ | h1
          · rw [movL_one h1]; simp
          · rw [movL_more h1])
        go_roundw
        case rel => exact ⟨t + 1, by omega, by go_num, by rw [E1.out, E2.out, E3.out]; exact T_8, U_8, K_8⟩
        case measure => simp [intOf]; omega
set_option maxRecDepth 100000 in
set_option maxHeartbeats 16000000 in
theorem l20Targets_any (w : World) (S : Nat → Prop) (b o : Nat) (r : RowM) (h : RowAt w S b o r) (hs : stB r.xs = true) :
    Calls Tryz.prog 99 #[.pointer (some ⟨b, o, none⟩)] w fun e w' => ∃ v1 v2 v3, e = .returned (.tuple #[v1, v2, v3]) ∧ Own3 w' w.heap.size v1 v2 v3 (ownsL (trL 0 0 r.xs)) (togL (trL 0 0 r.xs)) (movL (trL 0 0 r.xs)) ∧ Up w w' := by
  obtain ⟨A, c, -, -, f2, h4, h5, h6⟩ := h.open_
  have U0 := Lib.hid (Chg.refl Nowhere w)
  have HI := Lib.hid h
  have HI4 := Lib.hid h4
  have HS := Lib.hid hs
  have hl := stB_len hs
  have HK := Lib.hid (stB_kind hs)
  clear h4 h hs
  have M1 := Lib.hid (OwnI.made w w.heap.size (Nat.le_refl _))
  have M2 := Lib.hid (OwnI.made (w.alloc (.cells #[] 2)) w.heap.size (by simp))
  have M3 := Lib.hid (OwnI.made ((w.alloc (.cells #[] 2)).alloc (.cells #[] 2)) w.heap.size (by simp; omega))
  have N1 := Lib.hid (show OwnI (((w.alloc (.cells #[] 2)).alloc (.cells #[] 2)).alloc (.cells #[] 2)) w.heap.size _ [] from (M1.out.alloc _).alloc _)
  have N2 := Lib.hid (show OwnI (((w.alloc (.cells #[] 2)).alloc (.cells #[] 2)).alloc (.cells #[] 2)) w.heap.size _ [] from M2.out.alloc _)
  have N3 := Lib.hid (show OwnI (((w.alloc (.cells #[] 2)).alloc (.cells #[] 2)).alloc (.cells #[] 2)) w.heap.size _ [] from M3.out)
  clear M1 M2 M3
  go_enter Tryz.func99, Tryz.ntmps99
  go_wp2_with fail
  refine (l20Sources_any _ S _ _ r (HI.out.up (by repeat (first | exact Chg.refl _ _ | apply Chg.drew | apply Chg.drewN | refine Chg.alloc ?_ _))) HS.out).mono ?_
  rintro e w1 ⟨v1, rfl, k1, g1⟩
  obtain ⟨A1, c1, rfl, hl1, hc1, -⟩ := k1.shape
  have K1 := Lib.hid k1
  clear k1
  have G1 := Lib.hid g1
  obtain ⟨hy1, hz1⟩ := up_pre (show Up w _ from (by repeat (first | exact Chg.refl _ _ | apply Chg.drew | apply Chg.drewN | refine Chg.alloc ?_ _))) G1.out
  clear g1
  have U_2 := Lib.hid (Chg.trans U0.out (Chg.trans (by repeat (first | exact Chg.refl _ _ | apply Chg.drew | apply Chg.drewN | refine Chg.alloc ?_ _)) G1.out))
  clear U0
  have I_3 := Lib.hid (HI.out.up (Chg.trans (by repeat (first | exact Chg.refl _ _ | apply Chg.drew | apply Chg.drewN | refine Chg.alloc ?_ _)) G1.out))
  clear HI
  have N1_4 := Lib.hid (N1.out.up (Chg.trans (by repeat (first | exact Chg.refl _ _ | apply Chg.drew | apply Chg.drewN | refine Chg.alloc ?_ _)) G1.out))
  clear N1
  have N2_5 := Lib.hid (N2.out.up (Chg.trans (by repeat (first | exact Chg.refl _ _ | apply Chg.drew | apply Chg.drewN | refine Chg.alloc ?_ _)) G1.out))
  clear N2
  have N3_6 := Lib.hid (N3.out.up (Chg.trans (by repeat (first | exact Chg.refl _ _ | apply Chg.drew | apply Chg.drewN | refine Chg.alloc ?_ _)) G1.out))
  clear N3
  clear G1
  have K_7 := Lib.hid (K1.out)
  clear K1
  go_wp2_with fail
  refine (l20Results_any _ S _ _ r (I_3.out.up (by repeat (first | exact Chg.refl _ _ | apply Chg.drew | apply Chg.drewN | refine Chg.alloc ?_ _))) HS.out).mono ?_
  rintro e w8 ⟨v8, rfl, k1, g1⟩
  obtain ⟨A8, c8, rfl, hl8, hc8, -⟩ := k1.shape
  have K1 := Lib.hid k1
  clear k1
  have G1 := Lib.hid g1
  obtain ⟨hy8, hz8⟩ := up_pre (show Up w1 _ from (by repeat (first | exact Chg.refl _ _ | apply Chg.drew | apply Chg.drewN | refine Chg.alloc ?_ _))) G1.out
  clear g1
  have U_9 := Lib.hid (Chg.trans U_2.out (Chg.trans (by repeat (first | exact Chg.refl _ _ | apply Chg.drew | apply Chg.drewN | refine Chg.alloc ?_ _)) G1.out))
  clear U_2
  have I_10 := Lib.hid (I_3.out.up (Chg.trans (by repeat (first | exact Chg.refl _ _ | apply Chg.drew | apply Chg.drewN | refine Chg.alloc ?_ _)) G1.out))
  clear I_3
  have N1_11 := Lib.hid (N1_4.out.up (Chg.trans (by repeat (first | exact Chg.refl _ _ | apply Chg.drew | apply Chg.drewN | refine Chg.alloc ?_ _)) G1.out))
  clear N1_4
  have N2_12 := Lib.hid (N2_5.out.up (Chg.trans (by repeat (first | exact Chg.refl _ _ | apply Chg.drew | apply Chg.drewN | refine Chg.alloc ?_ _)) G1.out))
  clear N2_5
  have N3_13 := Lib.hid (N3_6.out.up (Chg.trans (by repeat (first | exact Chg.refl _ _ | apply Chg.drew | apply Chg.drewN | refine Chg.alloc ?_ _)) G1.out))
  clear N3_6
  have K_14 := Lib.hid (K_7.out.up (Chg.trans (by repeat (first | exact Chg.refl _ _ | apply Chg.drew | apply Chg.drewN | refine Chg.alloc ?_ _)) G1.out))
  clear K_7
  clear G1
  have L_15 := Lib.hid (K1.out)
  clear K1
  have hT0 := Lib.hid (show T3 w8 w.heap.size (w.heap.size + 3) w8.heap.size (.slice (some ⟨w.heap.size, 0, none⟩) 0 0) (.slice (some ⟨w.heap.size + 1, 0, none⟩) 0 0) (.slice (some ⟨w.heap.size + 1 + 1, 0, none⟩) 0 0) (ownsL (trL 0 0 (r.xs.take 0))) (togL (trL 0 0 (r.xs.take 0))) (movL (trL 0 0 (r.xs.take 0))) _ _ _ _ from ⟨by have := N1_11.out; simpa [ownsL, togL, movL, trL] using this, by have := N2_12.out; simpa [ownsL, togL, movL, trL] using this, by have := N3_13.out; simpa [ownsL, togL, movL, trL] using this, fun g h => by simp [Value.ownBlock] at *; omega, fun g h => by simp [Value.ownBlock] at *; omega, fun g h => by simp [Value.ownBlock] at *; omega, fun g h => by simp [Value.ownBlock] at *; omega, fun g h => by simp [Value.ownBlock] at *; omega, fun g h => by simp [Value.ownBlock] at *; omega, K_14.out.mono (fun b hb => ⟨by have := hb.1; simp at *; omega, by have := hb.2; simp at *; omega⟩), L_15.out.mono (fun b hb => ⟨by have := hb.1; simp at *; omega, hb.2⟩), Nat.le_refl _⟩)
  have UA0 := U_9
  have hlm1 := listsM_length takenK 0 r.xs
  have hlm2 := listsM_length madeK 0 r.xs
  go_wp2
  go_loopw [5, 6, 7, 10, 11] (fun v1 v2 v3 i _ wr => ∃ j : Nat, j ≤ r.xs.length ∧ i = .int .i64 j ∧ Hid (T3 wr w.heap.size (w.heap.size + 3) w8.heap.size v1 v2 v3 (ownsL (trL 0 0 (r.xs.take j))) (togL (trL 0 0 (r.xs.take j))) (movL (trL 0 0 (r.xs.take j))) (.slice A1 (listsM takenK 0 r.xs).length c1) (.slice A8 (listsM madeK 0 r.xs).length c8) (listsM takenK 0 r.xs) (listsM madeK 0 r.xs)) ∧ Hid (Up w wr)) (fun _ _ _ i _ _ => r.xs.length - (intOf i).toNat)
  case atStart => exact ⟨0, by omega, rfl, hT0.out, UA0.out⟩
  clear hT0 UA0
  case round =>
    obtain ⟨j, hj, rfl, ho, hg⟩ := hrel
    by_cases hlt : j < r.xs.length
    rotate_left
    · obtain rfl : j = r.xs.length := by omega
      have hjl : ¬ ((r.xs.length : Int) < (listsM takenK 0 r.xs).length) := by rw [hlm1]; omega
      have HX := Lib.hid (show r.xs.take r.xs.length = r.xs by rw [List.take_length])
      have HO := Lib.hid ho.out
      clear ho
      rw [HX.out] at HO
      go_wp2
      go_ret3
      exact ⟨_, _, _, rfl, ⟨HO.out.o1, HO.out.o2, HO.out.o3, HO.out.d12, HO.out.d13, HO.out.d23⟩, hg.out⟩
    have hj1 : j < (listsM takenK 0 r.xs).length := by rw [hlm1]; exact hlt
    have hj2 : j < (listsM madeK 0 r.xs).length := by rw [hlm2]; exact hlt
    have hj1i : (j : Int) < (listsM takenK 0 r.xs).length := by omega
    have hj2i : (j : Int) < (listsM madeK 0 r.xs).length := by omega
    obtain ⟨n, hn⟩ := Int.eq_ofNat_of_zero_le (takenK_bd r.xs[j]).1
    obtain ⟨m, hm⟩ := Int.eq_ofNat_of_zero_le (show 0 ≤ madeK r.xs[j] by have := madeK_bd r.xs[j]; omega)
    have hnb := takenK_bd r.xs[j]
    have hmb := madeK_bd r.xs[j]
    rw [hn] at hnb
    rw [hm] at hmb
    have hG1 := listsM_get takenK 0 r.xs j hlt
    have hG2 := listsM_get madeK 0 r.xs j hlt
    rw [Int.zero_add, hn] at hG1
    rw [Int.zero_add, hm] at hG2
    have hb1 := sumF_bd takenK 0 4 (by omega) (fun x => by have := takenK_bd x; omega) (r.xs.take j)
    have hb2 := sumF_bd madeK 0 4 (by omega) (fun x => by have := madeK_bd x; omega) (r.xs.take j)
    rw [List.length_take, Nat.min_eq_left hj] at hb1 hb2
    have hT := trL_take hlt
    rw [trTo_all hn] at hT
    generalize hsv : sumF takenK (r.xs.take j) = sv at *
    generalize hrv : sumF madeK (r.xs.take j) = rv at *
    have hPl := trL_len_le (xs := r.xs) (j := j) hl
    have HP := Lib.hid hT
    have HG1 := Lib.hid hG1
    have HG2 := Lib.hid hG2
    have HN := Lib.hid hn
    have HM := Lib.hid hm
    have HR1 := Lib.hid hsv
    have HR2 := Lib.hid hrv
    clear hT hG1 hG2 hn hm hsv hrv
    generalize hP : trL 0 0 (r.xs.take j) = P at *
    have HPP := Lib.hid hP
    clear hP
    have hsz := hg.out.size
    have hszl := ho.out.le
    obtain ⟨wo, rfl⟩ : ∃ wo : World, wo = wr := ⟨_, rfl⟩
    go_wp2
    go_loopw [5, 6, 7, 11] (fun v1 v2 v3 i wr => ∃ t : Nat, t ≤ n ∧ i = .int .i64 t ∧ Hid (T3 wr w.heap.size (w.heap.size + 3) w8.heap.size v1 v2 v3 (ownsL (P ++ trTo r.xs[j] sv rv t)) (togL (P ++ trTo r.xs[j] sv rv t)) (movL (P ++ trTo r.xs[j] sv rv t)) (.slice A1 (listsM takenK 0 r.xs).length c1) (.slice A8 (listsM madeK 0 r.xs).length c8) (listsM takenK 0 r.xs) (listsM madeK 0 r.xs)) ∧ Hid (Up w wr)) (fun _ _ _ i _ => n - (intOf i).toNat)
    case atStart => exact ⟨0, by omega, rfl, by simpa [trTo, Hid] using ho, hg⟩
    clear ho hg
    case round =>
      obtain ⟨t, ht, rfl, ho, hg⟩ := hrel
      have hsz := hg.out.size
      by_cases hlt2 : t < n
      rotate_left
      · obtain rfl : t = n := by omega
        obtain ⟨xb, xo, xc, xB, xci, xhe, -, -, xf, xk, xh1, xh2⟩ := ho.out.k1.at_ hj1
        obtain ⟨rfl, rfl⟩ : A1 = some ⟨xb, xo, none⟩ ∧ c1 = xc := by simpa using xhe
        rw [HG1.out] at xf xh1
        rw [countM_len] at xf xh1
        clear xhe xk
        go_wp2
        go_roundw
        case rel => exact ⟨j + 1, by omega, by go_num, by rw [HP.out]; exact ho, hg⟩
        case measure => simp [intOf]; omega
      have HL1 := Lib.hid (show (ownsL (P ++ trTo r.xs[j] sv rv t)).length ≤ 1099511627776 by have := toglen P r.xs[j] sv rv t; omega)
      have HL2 := Lib.hid (show (togL (P ++ trTo r.xs[j] sv rv t)).length ≤ 1099511627776 by have := toglen P r.xs[j] sv rv t; omega)
      have HL3 := Lib.hid (show (movL (P ++ trTo r.xs[j] sv rv t)).length ≤ 1099511627776 by have := toglen P r.xs[j] sv rv t; omega)
      have HV1 := Lib.hid (show I64 (2 * (sv + t) + 1) by unfold I64; omega)
      have HV2 := Lib.hid (show I64 (2 * sv + 1) by unfold I64; omega)
      have HV3 := Lib.hid (show I64 (2 * rv + 1) by unfold I64; omega)
      have HV4 := Lib.hid (show I64 (2 * (rv + t) + 1) by unfold I64; omega)
      obtain ⟨z1b, z1o, z1c, z1B, z1i, z1he, -, -, z1f, z1k, z1h1, z1h2⟩ := ho.out.k1.at_ hj1
      obtain ⟨rfl, rfl⟩ : A1 = some ⟨z1b, z1o, none⟩ ∧ c1 = z1c := by simpa using z1he
      rw [HG1.out] at z1f z1k z1h1
      rw [countM_len] at z1f z1k z1h1
      obtain ⟨z2b, z2o, z2A, -, z2c⟩ := Ints.ix (A := z1B) (c := z1i) (xs := countM sv n) (by rw [countM_len]; exact z1k) (i := t) (by rw [countM_len]; exact hlt2)
      subst z2A
      have z2f := z2c t (by rw [countM_len]; exact hlt2)
      rw [ix_count sv n t hlt2] at z2f
      clear z2c
      clear z1he z1k
      go_wp2_with fail
      refine (l20Needle_any _ _ ⟨by omega, by omega⟩).mono ?_
      rintro e w' ⟨rfl, rfl⟩
      clear z1f z2f
      by_cases hM : madeK r.xs[j] = 1
      · skip
        have hm1 : (m : Int) = 1 := by rw [← HM.out]; exact hM
        have hd : ((m : Int) == 1) = true := by simpa using hm1
        have hm0 : 0 < m := by omega
        have HMM := Lib.hid hM
        clear hM
        go_wp2_with (first | (at_builtin; refine wp_append_int2 rfl _ _ rfl w.heap.size _ (ownsL (P ++ trTo r.xs[j] sv rv t)) rfl (ho.out.o1.alloc _) _ (2 * (sv + t) + 1) rfl (cell_new _ _ _ _) HV1.out HL1.out ?_ ?_; (simp; omega); intro v3 w3 ho1 ho2 ho3 hg1; have B1_3 := Lib.hid ho1; have B2_3 := Lib.hid ho2; have B3_3 := Lib.hid ho3; have B4_3 := Lib.hid hg1; clear ho1 ho2 ho3 hg1; have T_3 := Lib.hid (T3.app (ho.out.up ((Chg.refl Nowhere _).alloc _)) B1_3.out B2_3.out B3_3.out); have U_3 := Lib.hid (Chg.new (hg.out.trans ((Chg.refl Nowhere _).alloc _)) B4_3.out (fun i hi => by omega)); have hs_3 := U_3.out.size; have hle_3 := T_3.out.le; clear B1_3 B2_3 B3_3 B4_3 ho hg; obtain ⟨z4b, z4o, z4c, z4B, z4i, z4he, -, -, z4f, z4k, z4h1, z4h2⟩ := T_3.out.k2.at_ hj2; obtain ⟨rfl, rfl⟩ : A8 = some ⟨z4b, z4o, none⟩ ∧ c8 = z4c := (by simpa using z4he); rw [HG2.out] at z4f z4k z4h1; rw [countM_len] at z4f z4k z4h1; obtain ⟨z5b, z5o, z5A, -, z5c⟩ := Ints.ix (A := z4B) (c := z4i) (xs := countM rv m) (by rw [countM_len]; exact z4k) (i := 0) (by rw [countM_len]; exact hm0); subst z5A; have z5f := z5c 0 (by rw [countM_len]; exact hm0); rw [ix_count rv m 0 hm0] at z5f; clear z5c; rw [show rv + ((0 : Nat) : Int) = rv by omega, Nat.add_zero] at z5f; clear z4he z4k; obtain ⟨z6b, z6o, z6c, z6B, z6i, z6he, -, -, z6f, z6k, z6h1, z6h2⟩ := T_3.out.k1.at_ hj1; obtain ⟨⟨rfl, rfl⟩, rfl⟩ : (z1b = z6b ∧ z1o = z6o) ∧ c1 = z6c := (by simpa using z6he); rw [HG1.out] at z6f z6k z6h1; rw [countM_len] at z6f z6k z6h1; obtain ⟨z7b, z7o, z7A, -, z7c⟩ := Ints.ix (A := z6B) (c := z6i) (xs := countM sv n) (by rw [countM_len]; exact z6k) (i := 0) (by rw [countM_len]; exact (show 0 < n by omega)); subst z7A; have z7f := z7c 0 (by rw [countM_len]; exact (show 0 < n by omega)); rw [ix_count sv n 0 (show 0 < n by omega)] at z7f; clear z7c; rw [show sv + ((0 : Nat) : Int) = sv by omega, Nat.add_zero] at z7f; clear z6he z6k))
        refine (l20Needle_any _ _ ⟨by omega, by omega⟩).mono ?_
        rintro e w' ⟨rfl, rfl⟩
        clear z4f z5f z6f z7f
        go_wp2_with (first | (at_builtin; refine wp_append_int2 rfl _ _ rfl w.heap.size _ (togL (P ++ trTo r.xs[j] sv rv t)) rfl (T_3.out.o2.alloc _) _ (2 * sv + 1) rfl (cell_new _ _ _ _) HV2.out HL2.out ?_ ?_; (simp; omega); intro v8 w8 ho1 ho2 ho3 hg1; have B1_8 := Lib.hid ho1; have B2_8 := Lib.hid ho2; have B3_8 := Lib.hid ho3; have B4_8 := Lib.hid hg1; clear ho1 ho2 ho3 hg1; have T_8 := Lib.hid (T3.app2 (T_3.out.up ((Chg.refl Nowhere _).alloc _)) B1_8.out B2_8.out B3_8.out); have U_8 := Lib.hid (Chg.new (U_3.out.trans ((Chg.refl Nowhere _).alloc _)) B4_8.out (fun i hi => by omega)); have hs_8 := U_8.out.size; have hle_8 := T_8.out.le; clear B1_8 B2_8 B3_8 B4_8 T_3 U_3; obtain ⟨z9b, z9o, z9c, z9B, z9i, z9he, -, -, z9f, z9k, z9h1, z9h2⟩ := T_8.out.k2.at_ hj2; obtain ⟨⟨rfl, rfl⟩, rfl⟩ : (z4b = z9b ∧ z4o = z9o) ∧ c8 = z9c := (by simpa using z9he); rw [HG2.out] at z9f z9k z9h1; rw [countM_len] at z9f z9k z9h1; obtain ⟨z10b, z10o, z10A, -, z10c⟩ := Ints.ix (A := z9B) (c := z9i) (xs := countM rv m) (by rw [countM_len]; exact z9k) (i := 0) (by rw [countM_len]; exact hm0); subst z10A; have z10f := z10c 0 (by rw [countM_len]; exact hm0); rw [ix_count rv m 0 hm0] at z10f; clear z10c; rw [show rv + ((0 : Nat) : Int) = rv by omega, Nat.add_zero] at z10f; clear z9he z9k))
        refine (l20Needle_any _ _ ⟨by omega, by omega⟩).mono ?_
        rintro e w' ⟨rfl, rfl⟩
        clear z9f z10f
        go_wp2_with (first | (at_builtin; refine wp_append_int2 rfl _ _ rfl w.heap.size _ (movL (P ++ trTo r.xs[j] sv rv t)) rfl (T_8.out.o3.alloc _) _ (2 * rv + 1) rfl (cell_new _ _ _ _) HV3.out HL3.out ?_ ?_; (simp; omega); intro v11 w11 ho1 ho2 ho3 hg1; have B1_11 := Lib.hid ho1; have B2_11 := Lib.hid ho2; have B3_11 := Lib.hid ho3; have B4_11 := Lib.hid hg1; clear ho1 ho2 ho3 hg1; have T_11 := Lib.hid (T3.app3 (T_8.out.up ((Chg.refl Nowhere _).alloc _)) B1_11.out B2_11.out B3_11.out); have U_11 := Lib.hid (Chg.new (U_8.out.trans ((Chg.refl Nowhere _).alloc _)) B4_11.out (fun i hi => by omega)); have hs_11 := U_11.out.size; have hle_11 := T_11.out.le; clear B1_11 B2_11 B3_11 B4_11 T_8 U_8))
        have E1 := Lib.hid (ownsL_snoc P r.xs[j] sv rv t)
        have E2 := Lib.hid (togL_one HMM.out P sv rv t)
        have E3 := Lib.hid (movL_one HMM.out P sv rv t)
        go_roundw
        case rel => exact ⟨t + 1, by omega, by go_num, by rw [E1.out, E2.out, E3.out]; exact T_11, U_11⟩
        case measure => simp [intOf]; omega
      · skip
        have hm1 : ¬ (m : Int) = 1 := by rw [← HM.out]; exact hM
        have hd : ((m : Int) == 1) = false := by simpa using hm1
        have hltm : t < m := by have := taken_made hM; rw [HN.out, HM.out] at this; omega
        have HMM := Lib.hid hM
        clear hM hm1
        go_wp2_with (first | (at_builtin; refine wp_append_int2 rfl _ _ rfl w.heap.size _ (ownsL (P ++ trTo r.xs[j] sv rv t)) rfl (ho.out.o1.alloc _) _ (2 * (sv + t) + 1) rfl (cell_new _ _ _ _) HV1.out HL1.out ?_ ?_; (simp; omega); intro v3 w3 ho1 ho2 ho3 hg1; have B1_3 := Lib.hid ho1; have B2_3 := Lib.hid ho2; have B3_3 := Lib.hid ho3; have B4_3 := Lib.hid hg1; clear ho1 ho2 ho3 hg1; have T_3 := Lib.hid (T3.app (ho.out.up ((Chg.refl Nowhere _).alloc _)) B1_3.out B2_3.out B3_3.out); have U_3 := Lib.hid (Chg.new (hg.out.trans ((Chg.refl Nowhere _).alloc _)) B4_3.out (fun i hi => by omega)); have hs_3 := U_3.out.size; have hle_3 := T_3.out.le; clear B1_3 B2_3 B3_3 B4_3 ho hg; obtain ⟨z4b, z4o, z4c, z4B, z4i, z4he, -, -, z4f, z4k, z4h1, z4h2⟩ := T_3.out.k2.at_ hj2; obtain ⟨rfl, rfl⟩ : A8 = some ⟨z4b, z4o, none⟩ ∧ c8 = z4c := (by simpa using z4he); rw [HG2.out] at z4f z4k z4h1; rw [countM_len] at z4f z4k z4h1; obtain ⟨z5b, z5o, z5A, -, z5c⟩ := Ints.ix (A := z4B) (c := z4i) (xs := countM rv m) (by rw [countM_len]; exact z4k) (i := t) (by rw [countM_len]; exact hltm); subst z5A; have z5f := z5c t (by rw [countM_len]; exact hltm); rw [ix_count rv m t hltm] at z5f; clear z5c; clear z4he z4k; obtain ⟨z6b, z6o, z6c, z6B, z6i, z6he, -, -, z6f, z6k, z6h1, z6h2⟩ := T_3.out.k1.at_ hj1; obtain ⟨⟨rfl, rfl⟩, rfl⟩ : (z1b = z6b ∧ z1o = z6o) ∧ c1 = z6c := (by simpa using z6he); rw [HG1.out] at z6f z6k z6h1; rw [countM_len] at z6f z6k z6h1; obtain ⟨z7b, z7o, z7A, -, z7c⟩ := Ints.ix (A := z6B) (c := z6i) (xs := countM sv n) (by rw [countM_len]; exact z6k) (i := t) (by rw [countM_len]; exact hlt2); subst z7A; have z7f := z7c t (by rw [countM_len]; exact hlt2); rw [ix_count sv n t hlt2] at z7f; clear z7c; clear z6he z6k))
        refine (l20Needle_any _ _ ⟨by omega, by omega⟩).mono ?_
        rintro e w' ⟨rfl, rfl⟩
        clear z4f z5f z6f z7f
        go_wp2_with (first | (at_builtin; refine wp_append_int2 rfl _ _ rfl w.heap.size _ (togL (P ++ trTo r.xs[j] sv rv t)) rfl (T_3.out.o2.alloc _) _ (2 * (sv + t) + 1) rfl (cell_new _ _ _ _) HV1.out HL2.out ?_ ?_; (simp; omega); intro v8 w8 ho1 ho2 ho3 hg1; have B1_8 := Lib.hid ho1; have B2_8 := Lib.hid ho2; have B3_8 := Lib.hid ho3; have B4_8 := Lib.hid hg1; clear ho1 ho2 ho3 hg1; have T_8 := Lib.hid (T3.app2 (T_3.out.up ((Chg.refl Nowhere _).alloc _)) B1_8.out B2_8.out B3_8.out); have U_8 := Lib.hid (Chg.new (U_3.out.trans ((Chg.refl Nowhere _).alloc _)) B4_8.out (fun i hi => by omega)); have hs_8 := U_8.out.size; have hle_8 := T_8.out.le; clear B1_8 B2_8 B3_8 B4_8 T_3 U_3; obtain ⟨z9b, z9o, z9c, z9B, z9i, z9he, -, -, z9f, z9k, z9h1, z9h2⟩ := T_8.out.k2.at_ hj2; obtain ⟨⟨rfl, rfl⟩, rfl⟩ : (z4b = z9b ∧ z4o = z9o) ∧ c8 = z9c := (by simpa using z9he); rw [HG2.out] at z9f z9k z9h1; rw [countM_len] at z9f z9k z9h1; obtain ⟨z10b, z10o, z10A, -, z10c⟩ := Ints.ix (A := z9B) (c := z9i) (xs := countM rv m) (by rw [countM_len]; exact z9k) (i := t) (by rw [countM_len]; exact hltm); subst z10A; have z10f := z10c t (by rw [countM_len]; exact hltm); rw [ix_count rv m t hltm] at z10f; clear z10c; clear z9he z9k))
        refine (l20Needle_any _ _ ⟨by omega, by omega⟩).mono ?_
        rintro e w' ⟨rfl, rfl⟩
        clear z9f z10f
        go_wp2_with (first | (at_builtin; refine wp_append_int2 rfl _ _ rfl w.heap.size _ (movL (P ++ trTo r.xs[j] sv rv t)) rfl (T_8.out.o3.alloc _) _ (2 * (rv + t) + 1) rfl (cell_new _ _ _ _) HV4.out HL3.out ?_ ?_; (simp; omega); intro v11 w11 ho1 ho2 ho3 hg1; have B1_11 := Lib.hid ho1; have B2_11 := Lib.hid ho2; have B3_11 := Lib.hid ho3; have B4_11 := Lib.hid hg1; clear ho1 ho2 ho3 hg1; have T_11 := Lib.hid (T3.app3 (T_8.out.up ((Chg.refl Nowhere _).alloc _)) B1_11.out B2_11.out B3_11.out); have U_11 := Lib.hid (Chg.new (U_8.out.trans ((Chg.refl Nowhere _).alloc _)) B4_11.out (fun i hi => by omega)); have hs_11 := U_11.out.size; have hle_11 := T_11.out.le; clear B1_11 B2_11 B3_11 B4_11 T_8 U_8))
        have E1 := Lib.hid (ownsL_snoc P r.xs[j] sv rv t)
        have E2 := Lib.hid (togL_more HMM.out P sv rv t)
        have E3 := Lib.hid (movL_more HMM.out P sv rv t)
        go_roundw
        case rel => exact ⟨t + 1, by omega, by go_num, by rw [E1.out, E2.out, E3.out]; exact T_11, U_11⟩
        case measure => simp [intOf]; omega
end Go.Proofs.YtnjfhpgmogopnaaGreat
namespace Go.Proofs.YtnjfhpgmogopnaaGreat
open Go.ChangeShapes Go.WideShapes Go.ChangeAt Go.RowKit
theorem results_tmp4 {fn : Func} {t u v x : Tmp} (h : fn.results = #[.tmp t, .tmp u, .tmp v, .tmp x]) (tmps : Array Value) (P : Program) (w : World) :
    (results fn tmps).run P w = .ok (.tuple #[tmps.getD t undef, tmps.getD u undef, tmps.getD v undef, tmps.getD x undef]) w := by
  simp [results, h]
theorem ret_ttti {v1 v2 v3 : Value} {a b : Int} (h : a = b) : Ending.returned (.tuple #[v1, v2, v3, .int .i64 a]) = .returned (.tuple #[v1, v2, v3, .int .i64 b]) := by rw [h]
def trOut (r : RowM) : List Tr := if rowCodeM r.d r.c r.xs = 0 then trL 0 0 r.xs else []
theorem trOut_bd (r : RowM) : (trOut r).length ≤ 1000 := by
  unfold trOut
  split
  · rename_i h
    have := (LaidRow.tr (laid_of h)).len
    omega
  · simp
theorem trOut_cnt (r : RowM) : cntInts (ownsL (trOut r)) ≤ 1000 ∧ cntInts (togL (trOut r)) ≤ 1000 ∧ cntInts (movL (trOut r)) ≤ 1000 := by
  have := trOut_bd r
  simp [cntInts, ownsL, togL, movL, this]
def Apart3 (S1 S2 S3 : Nat → Prop) : Prop := (∀ b, S1 b → ¬ S2 b) ∧ (∀ b, S1 b → ¬ S3 b) ∧ (∀ b, S2 b → ¬ S3 b)
/-- three slices, read apart, and a code -/
def Tri (w w' : World) (e : Ending) (v1 v2 v3 : Value) (S1 S2 S3 : Nat → Prop) (x1 x2 x3 : List Int) (c : Int) : Prop :=
  e = .returned (.tuple #[v1, v2, v3, .int .i64 c]) ∧ Ints w' S1 v1 x1 ∧ Ints w' S2 v2 x2 ∧ Ints w' S3 v3 x3 ∧ Apart3 S1 S2 S3 ∧ (∀ b, S1 b ∨ S2 b ∨ S3 b → New w.heap.size w'.heap.size b) ∧ Up w w'
theorem Tri.nil {w w' : World} {c c' : Int} (h : c' = c) (g : Up w w') : Tri w w' (.returned (.tuple #[.slice none 0 0, .slice none 0 0, .slice none 0 0, .int .i64 c'])) (.slice none 0 0) (.slice none 0 0) (.slice none 0 0) (fun _ => False) (fun _ => False) (fun _ => False) [] [] [] c :=
  ⟨by rw [h], Ints.nil _ _ _ _ (by omega), Ints.nil _ _ _ _ (by omega), Ints.nil _ _ _ _ (by omega), ⟨fun _ h => h.elim, fun _ h => h.elim, fun _ h => h.elim⟩, fun _ h => by rcases h with h | h | h <;> exact h.elim, g⟩
theorem Tri.own {w w' : World} {base : Nat} {v1 v2 v3 : Value} {x1 x2 x3 : List Int} {c c' : Int} (h : Own3 w' base v1 v2 v3 x1 x2 x3) (hc : c' = c) (hb : w.heap.size ≤ base) (g : Up w w') :
    Tri w w' (.returned (.tuple #[v1, v2, v3, .int .i64 c'])) v1 v2 v3 (fun b => v1.ownBlock = some b ∧ base ≤ b ∧ b < w'.heap.size) (fun b => v2.ownBlock = some b ∧ base ≤ b ∧ b < w'.heap.size) (fun b => v3.ownBlock = some b ∧ base ≤ b ∧ b < w'.heap.size) x1 x2 x3 c :=
  ⟨by rw [hc], h.o1.rd, h.o2.rd, h.o3.rd, ⟨fun b h1 h2 => h.d12 b h1.1 h2.1, fun b h1 h2 => h.d13 b h1.1 h2.1, fun b h1 h2 => h.d23 b h1.1 h2.1⟩,
   fun b hh => by rcases hh with hh | hh | hh <;> exact ⟨Nat.le_trans hb hh.2.1, hh.2.2⟩, g⟩
end Go.Proofs.YtnjfhpgmogopnaaGreat
namespace Go.Proofs.YtnjfhpgmogopnaaGreat
open Go.ChangeShapes Go.WideShapes Go.ChangeAt Go.RowKit
def ordM (d : Int) (n : Nat) : List Int := if d = 1 then countM 0 n else (countM 0 n).reverse
theorem ordM_length (d : Int) (n : Nat) : (ordM d n).length = n := by unfold ordM; split <;> simp [countM]
theorem ordM_get (d : Int) (n : Nat) (t : Nat) (h : t < (ordM d n).length) : (ordM d n)[t] = if d = 1 then (t : Int) else (n : Int) - 1 - t := by
  have hl := ordM_length d n
  unfold ordM at *
  split
  · simp [countM]
  · rename_i hd
    simp only [if_neg hd] at h
    simp [countM] at h ⊢
    omega
/-- the first j of them -/
def ordTo (d : Int) (n j : Nat) : List Int := (List.range j).map fun i : Nat => if d = 1 then (i : Int) else (n : Int) - 1 - i
theorem ordTo_succ (d : Int) (n j : Nat) : ordTo d n (j + 1) = ordTo d n j ++ [if d = 1 then (j : Int) else (n : Int) - 1 - j] := by simp [ordTo, List.range_succ]
theorem ordTo_all (d : Int) (n : Nat) : ordTo d n n = ordM d n := by
  refine List.ext_getElem (by simp [ordTo, ordM_length]) fun i h1 h2 => ?_
  rw [ordM_get]
  simp [ordTo]
theorem ordTo_len (d : Int) (n j : Nat) : (ordTo d n j).length = j := by simp [ordTo]
theorem info22 : (Tryz.prog.info? 2).map (fun i => (i.zero, i.size, i.bytes)) = some (some (.int .i64 0), 1, 8) := by kernel_rfl
set_option maxHeartbeats 2000000 in
theorem identity_any (w : World) (n : Nat) (hn : n ≤ 1000) :
    Calls Tryz.prog 122 #[.int .i64 n] w fun e w' => ∃ u, e = .returned u ∧ Ints w' (New w.heap.size w'.heap.size) u (countM 0 n) ∧ Up w w' := by
  obtain ⟨i0, hi, hz0, hz1, hz2⟩ := info_parts info22
  have hmk : ∀ u : World, (Instr.makeSlice 26 (.int .i64 (n : Int)) (.int .i64 (n : Int))).run Tryz.prog u =
      .ok (.slice (some ⟨u.heap.size, 0, none⟩) n n) (u.alloc (.cells (madeCells #[.int .i64 0] n) 2)) := fun u => by
    have h := run_make (P := Tryz.prog) u 26 2 i0 (.int .i64 0) Tryz.underlying26 hi hz0 .i64 .i64 (n : Int) (n : Int) (by omega) (Int.le_refl _) (by rw [hz2]; omega) (by omega)
    simpa [hz1, Value.cells] using h
  go_enter Tryz.func122, Tryz.ntmps122
  go_wp2
  have Hi := Lib.hid hmk
  clear hmk hi hz0 hz1 hz2
  go_loopw [4, 9] (fun _ i wr => ∃ j : Nat, j ≤ n ∧ i = .int .i64 j ∧ Hid (Up w wr) ∧ w.heap.size < wr.heap.size ∧
      Hid (∀ t (_ : t < n), wr.cell? ⟨w.heap.size, t, none⟩ = some (.int .i64 (if t < j then (t : Int) else 0)) ∧ wr.frozen? ⟨w.heap.size, t, none⟩ = false)) (fun _ i _ => n - (intOf i).toNat)
  case atStart => exact ⟨0, by omega, rfl, (Chg.refl _ _).alloc _, by simp, fun t ht => ⟨by rw [cell_new, madeInts_get _ _ ht]; simp, frozen_new _ _ _ _⟩⟩
  case round =>
    obtain ⟨j, hj, rfl, hg, hsz, hcs⟩ := hrel
    by_cases hlt : j < n
    · have hdj := (hcs.out j hlt).1
      have hfj := (hcs.out j hlt).2
      rw [if_neg (by omega)] at hdj
      go_wp2
      go_roundw
      case rel =>
        refine ⟨j + 1, by omega, by go_num, Chg.setCell hg.out (.inr (Nat.le_refl _)) _, by simpa [World.setCell] using hsz, fun t ht => ?_⟩
        obtain ⟨h1, h2⟩ := hcs.out t ht
        by_cases e : t = j
        · subst e
          rw [if_pos (by omega)]
          exact ⟨World.cell?_setCell_same _ _ _ hdj, by simpa using hfj⟩
        · rw [World.cell?_setCell_other _ _ _ _ (fun h => e (by injection h with _ h _; exact h.symm))]
          refine ⟨?_, by simpa using h2⟩
          rw [h1]
          by_cases ht2 : t < j
          · rw [if_pos ht2, if_pos (by omega)]
          · rw [if_neg ht2, if_neg (by omega)]
      case measure => simp [intOf]; omega
    · obtain rfl : j = n := by omega
      go_wp2
      go_ret
      refine ⟨_, rfl, ?_, hg⟩
      have hI := Ints.of_cells (w := wr) (S := New w.heap.size wr.heap.size) (g := w.heap.size) (c := j) (xs := countM 0 j) ⟨Nat.le_refl _, hsz⟩ hsz (by rw [countM_len]; exact Nat.le_refl _) (by omega) (fun x hx => by
        obtain ⟨i, hi, rfl⟩ := List.mem_map.1 hx
        have := List.mem_range.1 hi
        unfold I64; omega) (fun t ht => by
        have ht' : t < j := by rwa [countM_len] at ht
        obtain ⟨h1, h2⟩ := hcs.out t ht'
        rw [if_pos ht'] at h1
        rw [countM_get, Int.zero_add]
        exact ⟨h1, h2⟩)
      rw [countM_len] at hI
      exact hI
set_option maxHeartbeats 2000000 in
theorem order_any (w : World) (S : Nat → Prop) (v : Value) (r : RowM) (h : RowV w S v r) (hd : r.d = 1 ∨ r.d = -1) (hl : r.xs.length ≤ 16) :
    Calls Tryz.prog 84 #[v] w fun e w' => ∃ v', e = .returned v' ∧ Ints w' (New w.heap.size w'.heap.size) v' (ordM r.d r.xs.length) ∧ Up w w' := by
  obtain ⟨A, c, rfl, h4, h5, h6⟩ := openRow h
  have HI := Lib.hid h4
  have U0 := Lib.hid (Chg.refl Nowhere w)
  clear h h4
  rcases hd with hd | hd
  · have HO := Lib.hid (show ordM r.d r.xs.length = countM 0 r.xs.length from if_pos hd)
    have hdd : (r.d == -1) = false := by rw [hd]; rfl
    clear hd
    have U_1 := Lib.hid (Chg.trans U0.out ((Chg.refl Nowhere w).alloc (.cells #[.int .i64 r.d, .int .i64 r.c, .slice A r.xs.length c] 72)))
    clear U0
    have q0_2 := (show (w.alloc (.cells #[.int .i64 r.d, .int .i64 r.c, .slice A r.xs.length c] 72)).cell? ⟨w.heap.size, 0, none⟩ = some (.int .i64 r.d) from cell_new _ _ _ _)
    have q1_3 := (show (w.alloc (.cells #[.int .i64 r.d, .int .i64 r.c, .slice A r.xs.length c] 72)).cell? ⟨w.heap.size, 1, none⟩ = some (.int .i64 r.c) from cell_new _ _ _ _)
    have q2_4 := (show (w.alloc (.cells #[.int .i64 r.d, .int .i64 r.c, .slice A r.xs.length c] 72)).cell? ⟨w.heap.size, 2, none⟩ = some (.slice A r.xs.length c) from cell_new _ _ _ _)
    have hbx5 : w.heap.size < (w.alloc (.cells #[.int .i64 r.d, .int .i64 r.c, .slice A r.xs.length c] 72)).heap.size := by simp
    have hw1 := U_1.out.size
    go_enter Tryz.func84, Tryz.ntmps84
    go_wp2_with fail
    refine (identity_any _ r.xs.length (by omega)).mono ?_
    rintro e w6 ⟨v6, rfl, k1, g1⟩
    obtain ⟨A6, c6, rfl, hl6, hc6, -⟩ := k1.shape
    have K1 := Lib.hid k1
    clear k1
    have G1 := Lib.hid g1
    have hz6 := G1.out.size
    clear g1
    have U_7 := Lib.hid (Chg.trans U_1.out (Chg.trans (by repeat (first | exact Chg.refl _ _ | apply Chg.drew | apply Chg.drewN | refine Chg.alloc ?_ _)) G1.out))
    clear U_1
    have q0_8 := Chg.cell (Chg.trans (by repeat (first | exact Chg.refl _ _ | apply Chg.drew | apply Chg.drewN | refine Chg.alloc ?_ _)) G1.out) q0_2 id
    clear q0_2
    have q1_9 := Chg.cell (Chg.trans (by repeat (first | exact Chg.refl _ _ | apply Chg.drew | apply Chg.drewN | refine Chg.alloc ?_ _)) G1.out) q1_3 id
    clear q1_3
    have q2_10 := Chg.cell (Chg.trans (by repeat (first | exact Chg.refl _ _ | apply Chg.drew | apply Chg.drewN | refine Chg.alloc ?_ _)) G1.out) q2_4 id
    clear q2_4
    clear G1
    have K_11 := Lib.hid (K1.out)
    clear K1
    go_wp2
    go_ret
    exact ⟨_, rfl, by rw [HO.out]; exact K_11.out.mono (fun b _ hb => ⟨by have := hb.1; simp at *; omega, hb.2⟩), (Chg.trans U_7.out (by repeat (first | exact Chg.refl _ _ | apply Chg.drew | apply Chg.drewN | refine Chg.alloc ?_ _)))⟩
  · have HO := Lib.hid (show ordM r.d r.xs.length = (countM 0 r.xs.length).reverse from if_neg (by omega))
    have hdd : (r.d == -1) = true := by rw [hd]; rfl
    clear hd
    have U_12 := Lib.hid (Chg.trans U0.out ((Chg.refl Nowhere w).alloc (.cells #[.int .i64 r.d, .int .i64 r.c, .slice A r.xs.length c] 72)))
    clear U0
    have q0_13 := (show (w.alloc (.cells #[.int .i64 r.d, .int .i64 r.c, .slice A r.xs.length c] 72)).cell? ⟨w.heap.size, 0, none⟩ = some (.int .i64 r.d) from cell_new _ _ _ _)
    have q1_14 := (show (w.alloc (.cells #[.int .i64 r.d, .int .i64 r.c, .slice A r.xs.length c] 72)).cell? ⟨w.heap.size, 1, none⟩ = some (.int .i64 r.c) from cell_new _ _ _ _)
    have q2_15 := (show (w.alloc (.cells #[.int .i64 r.d, .int .i64 r.c, .slice A r.xs.length c] 72)).cell? ⟨w.heap.size, 2, none⟩ = some (.slice A r.xs.length c) from cell_new _ _ _ _)
    have hbx16 : w.heap.size < (w.alloc (.cells #[.int .i64 r.d, .int .i64 r.c, .slice A r.xs.length c] 72)).heap.size := by simp
    have hw1 := U_12.out.size
    go_enter Tryz.func84, Tryz.ntmps84
    go_wp2_with fail
    refine (identity_any _ r.xs.length (by omega)).mono ?_
    rintro e w17 ⟨v17, rfl, k1, g1⟩
    obtain ⟨A17, c17, rfl, hl17, hc17, -⟩ := k1.shape
    have K1 := Lib.hid k1
    clear k1
    have G1 := Lib.hid g1
    have hz17 := G1.out.size
    clear g1
    have U_18 := Lib.hid (Chg.trans U_12.out (Chg.trans (by repeat (first | exact Chg.refl _ _ | apply Chg.drew | apply Chg.drewN | refine Chg.alloc ?_ _)) G1.out))
    clear U_12
    have q0_19 := Chg.cell (Chg.trans (by repeat (first | exact Chg.refl _ _ | apply Chg.drew | apply Chg.drewN | refine Chg.alloc ?_ _)) G1.out) q0_13 id
    clear q0_13
    have q1_20 := Chg.cell (Chg.trans (by repeat (first | exact Chg.refl _ _ | apply Chg.drew | apply Chg.drewN | refine Chg.alloc ?_ _)) G1.out) q1_14 id
    clear q1_14
    have q2_21 := Chg.cell (Chg.trans (by repeat (first | exact Chg.refl _ _ | apply Chg.drew | apply Chg.drewN | refine Chg.alloc ?_ _)) G1.out) q2_15 id
    clear q2_15
    clear G1
    have K_22 := Lib.hid (K1.out)
    clear K1
    go_wp2_with fail
    refine (reverse_any _ _ _ _ (K_22.out.up (by repeat (first | exact Chg.refl _ _ | apply Chg.drew | apply Chg.drewN | refine Chg.alloc ?_ _)))).mono ?_
    rintro e w9 ⟨rfl, g1, k1⟩
    have G1 := Lib.hid g1
    have K1 := Lib.hid k1
    have hz9 := g1.size
    clear g1 k1
    go_wp2
    go_ret
    exact ⟨_, rfl, by rw [HO.out]; have := K1.out; exact this.mono (fun b _ hb => ⟨by have := hb.1; simp at *; omega, by have := hb.2; omega⟩), Chg.new (Chg.trans U_18.out (by repeat (first | exact Chg.refl _ _ | apply Chg.drew | apply Chg.drewN | refine Chg.alloc ?_ _))) G1.out (fun i hi hx => by have := hx.1; simp at *; omega)⟩
set_option maxHeartbeats 2000000 in
theorem l17Order_any (w : World) (S : Nat → Prop) (b o : Nat) (r : RowM) (h : RowAt w S b o r) (hd : r.d = 1 ∨ r.d = -1) (hl : r.xs.length ≤ 16) :
    Calls Tryz.prog 102 #[.pointer (some ⟨b, o, none⟩)] w fun e w' => ∃ v', e = .returned v' ∧ Ints w' (New w.heap.size w'.heap.size) v' (ordM r.d r.xs.length) ∧ Up w w' := by
  obtain ⟨A, c, f0, -, f2, h4, h5, h6⟩ := h.open_
  have hbb : b < w.heap.size := World.block_lt_of_cell? w _ f0
  clear h h4
  have HO := Lib.hid (ordTo_all r.d r.xs.length)
  have hs : ∃ q : Int → Nat → Int, ∀ j : Nat, q r.d j = (if r.d = 1 then (j : Int) else (r.xs.length : Int) - 1 - j) := ⟨fun d j => if d = 1 then (j : Int) else (r.xs.length : Int) - 1 - j, fun _ => rfl⟩
  rcases hd with hd | hd
  · have HS := Lib.hid (fun j => (ordTo_succ r.d r.xs.length j).trans (by rw [if_pos hd] : _ = ordTo r.d r.xs.length j ++ [(j : Int)]))
    have hdd : (r.d == 1) = true := by rw [hd]; rfl
    clear hd hs
    go_enter Tryz.func102, Tryz.ntmps102
    go_wp2
    go_loopw [3, 5] (fun v i wr => ∃ j : Nat, j ≤ r.xs.length ∧ i = .int .i64 j ∧ Hid (OwnI wr w.heap.size v (ordTo r.d r.xs.length j)) ∧ Hid (Up w wr)) (fun _ i _ => r.xs.length - (intOf i).toNat)
    case atStart => exact ⟨0, by omega, rfl, OwnI.made w _ (Nat.le_refl _), (Chg.refl _ _).alloc _⟩
    case round =>
      obtain ⟨j, hj, rfl, ho, hg⟩ := hrel
      have g0 := Chg.cell hg.out f0 id
      by_cases hlt : j < r.xs.length
      · have HI2 := Lib.hid (show I64 (j : Int) by unfold I64; omega)
        have HL := Lib.hid (show (ordTo r.d r.xs.length j).length ≤ 1099511627776 by rw [ordTo_len]; omega)
        have hsz := hg.out.size
        go_wp2_with (first | (at_builtin; refine wp_append_int rfl _ _ rfl w.heap.size _ (ordTo r.d r.xs.length j) rfl (ho.out.alloc _) _ (j : Int) rfl (cell_new _ _ _ _) HI2.out HL.out ?_ ?_; (simp; omega); intro v' w1 ho1 _ hg1; have HOO := Lib.hid ho1; have HG := Lib.hid hg1; clear ho1 hg1))
        go_roundw
        case rel => exact ⟨j + 1, by omega, by go_num, by rw [HS.out]; exact HOO.out, Chg.new (hg.out.alloc _) HG.out (fun i hi => by omega)⟩
        case measure => simp [intOf]; omega
      · obtain rfl : j = r.xs.length := by omega
        go_wp2
        go_ret
        exact ⟨_, rfl, by rw [← HO.out]; exact ho.out.ints, hg.out⟩
  · have HS := Lib.hid (fun j => (ordTo_succ r.d r.xs.length j).trans (by rw [if_neg (by omega)] : _ = ordTo r.d r.xs.length j ++ [(r.xs.length : Int) - 1 - j]))
    have hdd : (r.d == 1) = false := by rw [hd]; rfl
    clear hd hs
    go_enter Tryz.func102, Tryz.ntmps102
    go_wp2
    go_loopw [3, 5] (fun v i wr => ∃ j : Nat, j ≤ r.xs.length ∧ i = .int .i64 j ∧ Hid (OwnI wr w.heap.size v (ordTo r.d r.xs.length j)) ∧ Hid (Up w wr)) (fun _ i _ => r.xs.length - (intOf i).toNat)
    case atStart => exact ⟨0, by omega, rfl, OwnI.made w _ (Nat.le_refl _), (Chg.refl _ _).alloc _⟩
    case round =>
      obtain ⟨j, hj, rfl, ho, hg⟩ := hrel
      have g0 := Chg.cell hg.out f0 id
      by_cases hlt : j < r.xs.length
      · have HI2 := Lib.hid (show I64 ((r.xs.length : Int) - 1 - j) by unfold I64; omega)
        have HL := Lib.hid (show (ordTo r.d r.xs.length j).length ≤ 1099511627776 by rw [ordTo_len]; omega)
        have hsz := hg.out.size
        go_wp2_with (first | (at_builtin; refine wp_append_int rfl _ _ rfl w.heap.size _ (ordTo r.d r.xs.length j) rfl (ho.out.alloc _) _ ((r.xs.length : Int) - 1 - j) rfl (cell_new _ _ _ _) HI2.out HL.out ?_ ?_; (simp; omega); intro v' w1 ho1 _ hg1; have HOO := Lib.hid ho1; have HG := Lib.hid hg1; clear ho1 hg1))
        go_roundw
        case rel => exact ⟨j + 1, by omega, by go_num, by rw [HS.out]; exact HOO.out, Chg.new (hg.out.alloc _) HG.out (fun i hi => by omega)⟩
        case measure => simp [intOf]; omega
      · obtain rfl : j = r.xs.length := by omega
        go_wp2
        go_ret
        exact ⟨_, rfl, by rw [← HO.out]; exact ho.out.ints, hg.out⟩
set_option maxRecDepth 100000 in
set_option maxHeartbeats 4000000 in
theorem once_any (w : World) (S S2 : Nat → Prop) (v u : Value) (xs ys : List Int) (h : Ints w S v xs) (h2 : Ints w S2 u ys) (hl : ys.length = xs.length) (hx : xs.length ≤ 1000) :
    Calls Tryz.prog 81 #[v, u] w fun e w' => ∃ v1 v2, e = .returned (.tuple #[v1, v2]) ∧ Ints w' (New w.heap.size w'.heap.size) v1 (onceL xs xs xs.length) ∧ Ints w' (New w.heap.size w'.heap.size) v2 (onceL xs ys xs.length) ∧ Up w w' := by
  obtain ⟨A, c, rfl, hlc, hcm, -⟩ := h.shape
  obtain ⟨A2, c2, rfl, hlc2, hcm2, -⟩ := h2.shape
  have hxi : ∀ i, i < xs.length → I64 (ix xs i) := fun i hi => by obtain ⟨_, _, _, _, _, hq, _⟩ := h; rw [ix_eq hi]; exact hq _ (List.getElem_mem hi)
  have hyi : ∀ i, i < xs.length → I64 (ix ys i) := fun i hi => by obtain ⟨_, _, _, _, _, hq, _⟩ := h2; rw [ix_eq (by omega)]; exact hq _ (List.getElem_mem (by omega))
  have HXI := Lib.hid hxi
  have HYI := Lib.hid hyi
  have H := Lib.hid h
  have H2 := Lib.hid h2
  have HL := Lib.hid hl
  have hyl : xs.length ≤ ys.length ∧ ys.length ≤ xs.length := by omega
  have M1 := Lib.hid ((OwnI.made w w.heap.size (Nat.le_refl _)).alloc (.cells #[] 2))
  have M2 := Lib.hid (OwnI.made (w.alloc (.cells #[] 2)) w.heap.size (by simp))
  clear h h2 hl hxi hyi
  go_enter Tryz.func81, Tryz.ntmps81
  go_wp2
  go_loopw [6, 7, 8, 9, 14] (fun v1 v2 _ _ i wr => ∃ j : Nat, j ≤ xs.length ∧ i = .int .i64 j ∧ Hid (T3 wr w.heap.size 0 0 v1 v2 (.slice none 0 0) (onceL xs xs j) (onceL xs ys j) [] (.slice none 0 0) (.slice none 0 0) [] []) ∧ Hid (Up w wr)) (fun _ _ _ _ i _ => xs.length - (intOf i).toNat)
  case atStart => exact ⟨0, by omega, rfl, ⟨by simpa [onceL, keepTo] using M1.out, by simpa [onceL, keepTo] using M2.out, OwnI.nil _ _, fun g h => by simp [Value.ownBlock] at *; omega, fun g h => by simp [Value.ownBlock] at *, fun g h => by simp [Value.ownBlock] at *, fun g h => .inr (by omega), fun g h => .inr (by omega), fun g h => by simp [Value.ownBlock] at h, IntSS.nil _ _ _ _ (by omega), IntSS.nil _ _ _ _ (by omega), Nat.zero_le _⟩, ((Chg.refl _ _).alloc _).alloc _⟩
  clear M1 M2
  case round =>
    obtain ⟨j, hj, rfl, ho, hg⟩ := hrel
    by_cases hlt : j < xs.length
    · obtain ⟨b1, o1, rfl, hb1, hc⟩ := H.out.ix hlt
      obtain ⟨b2, o2, rfl, hb2, hd⟩ := H2.out.ix (i := j) (by omega)
      have f1 := Chg.cell hg.out (hc j hlt) id
      have hsz := hg.out.size
      have hjl : (j : Int) < ys.length := by omega
      have HV := Lib.hid (HXI.out j hlt)
      have HW := Lib.hid (HYI.out j hlt)
      have HC2 := Lib.hid (hd j (by omega))
      have HL1 := Lib.hid (show (onceL xs xs j).length ≤ 1099511627776 by have := onceL_length xs xs j; omega)
      have HL2 := Lib.hid (show (onceL xs ys j).length ≤ 1099511627776 by have := onceL_length xs ys j; omega)
      have hcase : (j = 0) ∨ (0 < j ∧ ix xs j ≠ ix xs (j - 1)) ∨ (0 < j ∧ ix xs j = ix xs (j - 1)) := by omega
      have HC0 := Lib.hid (fun (h0 : 0 < j) => Chg.cell hg.out (hc (j - 1) (by omega)) id)
      clear hc hd
      rcases hcase with h0 | ⟨h0, hne⟩ | ⟨h0, hne⟩
      · have HK := Lib.hid (show keepB xs j = true by unfold keepB; rw [decide_eq_true h0]; rfl)
        have HE := Lib.hid (onceL_yes (ys := xs) HK.out)
        have HE2 := Lib.hid (onceL_yes (ys := ys) HK.out)
        subst h0
        have e1 : (((0 : Nat) : Int) == 0) = true := by rfl
        rw [Nat.add_zero] at f1
        have HC2 := Lib.hid (show w.cell? ⟨b2, o2, none⟩ = _ from HC2.out)
        have hy0 : 0 < ys.length ∧ 0 < xs.length := ⟨by omega, by omega⟩
        obtain ⟨hy0, hx0⟩ := hy0
        go_wp2_with (first | (at_builtin; refine wp_append_int2 (o := ⟨some 33, _, _, _, _, _⟩) rfl _ _ rfl w.heap.size _ (onceL xs xs (0)) rfl (ho.out.o1.alloc _) _ (ix xs (0)) rfl (cell_new _ _ _ _) HV.out HL1.out ?_ ?_; (simp; omega); intro v7 w7 ho1 ho2 ho3 hg1; have T_7 := Lib.hid (T3.app (ho.out.up ((Chg.refl Nowhere _).alloc _)) ho1 ho2 ho3); have U_7 := Lib.hid (Chg.new (hg.out.trans ((Chg.refl Nowhere _).alloc _)) hg1 (fun i hi => by omega)); have hs7 := U_7.out.size; have f7 := Chg.cell U_7.out HC2.out id; clear ho1 ho2 ho3 hg1) | (at_builtin; refine wp_append_int2 (o := ⟨some 40, _, _, _, _, _⟩) rfl _ _ rfl w.heap.size _ (onceL xs ys (0)) rfl (T_7.out.o2.alloc _) _ (ix ys (0)) rfl (cell_new _ _ _ _) HW.out HL2.out ?_ ?_; (simp; omega); intro v8 w8 ho1 ho2 ho3 hg1; have T_8 := Lib.hid (T3.app2 (T_7.out.up ((Chg.refl Nowhere _).alloc _)) ho1 ho2 ho3); have U_8 := Lib.hid (Chg.new (U_7.out.trans ((Chg.refl Nowhere _).alloc _)) hg1 (fun i hi => by omega)); clear ho1 ho2 ho3 hg1))
        go_roundw
        case rel => exact ⟨0 + 1, by omega, by go_num, by rw [HE.out, HE2.out]; exact T_8, U_8⟩
        case measure => simp [intOf]; omega
      · have HK := Lib.hid (show keepB xs j = true by unfold keepB; rw [bne_iff_ne.2 hne, Bool.or_true])
        have HE := Lib.hid (onceL_yes (ys := xs) HK.out)
        have HE2 := Lib.hid (onceL_yes (ys := ys) HK.out)
        have f0 := HC0.out h0
        have e1 : ((j : Int) == 0) = false := by rw [beq_eq_false_iff_ne]; omega
        have e2 : (ix xs j != ix xs (j - 1)) = true := bne_iff_ne.2 hne
        clear hne
        obtain ⟨m, rfl⟩ : ∃ m, j = m + 1 := ⟨j - 1, by omega⟩
        have f0' := f0
        rw [show m + 1 - 1 = m by omega] at f0' e2
        clear f0
        go_wp2_with (first | (at_builtin; refine wp_append_int2 (o := ⟨some 33, _, _, _, _, _⟩) rfl _ _ rfl w.heap.size _ (onceL xs xs (m + 1)) rfl (ho.out.o1.alloc _) _ (ix xs (m + 1)) rfl (cell_new _ _ _ _) HV.out HL1.out ?_ ?_; (simp; omega); intro v7 w7 ho1 ho2 ho3 hg1; have T_7 := Lib.hid (T3.app (ho.out.up ((Chg.refl Nowhere _).alloc _)) ho1 ho2 ho3); have U_7 := Lib.hid (Chg.new (hg.out.trans ((Chg.refl Nowhere _).alloc _)) hg1 (fun i hi => by omega)); have hs7 := U_7.out.size; have f7 := Chg.cell U_7.out HC2.out id; clear ho1 ho2 ho3 hg1) | (at_builtin; refine wp_append_int2 (o := ⟨some 40, _, _, _, _, _⟩) rfl _ _ rfl w.heap.size _ (onceL xs ys (m + 1)) rfl (T_7.out.o2.alloc _) _ (ix ys (m + 1)) rfl (cell_new _ _ _ _) HW.out HL2.out ?_ ?_; (simp; omega); intro v8 w8 ho1 ho2 ho3 hg1; have T_8 := Lib.hid (T3.app2 (T_7.out.up ((Chg.refl Nowhere _).alloc _)) ho1 ho2 ho3); have U_8 := Lib.hid (Chg.new (U_7.out.trans ((Chg.refl Nowhere _).alloc _)) hg1 (fun i hi => by omega)); clear ho1 ho2 ho3 hg1))
        go_roundw
        case rel => exact ⟨m + 1 + 1, by omega, by go_num, by rw [HE.out, HE2.out]; exact T_8, U_8⟩
        case measure => simp [intOf]; omega
      · have HK := Lib.hid (show keepB xs j = false by unfold keepB; rw [decide_eq_false (by omega), hne]; simp)
        have f0 := HC0.out h0
        have hji : (j : Int) - 1 = ((j - 1 : Nat) : Int) := by omega
        have e1 : ((j : Int) == 0) = false := by rw [beq_eq_false_iff_ne]; omega
        have e2 : (ix xs j != ix xs (j - 1)) = false := by rw [hne]; simp
        have HE := Lib.hid (onceL_no (ys := xs) HK.out)
        have HE2 := Lib.hid (onceL_no (ys := ys) HK.out)
        clear hne
        obtain ⟨m, rfl⟩ : ∃ m, j = m + 1 := ⟨j - 1, by omega⟩
        have f0' := f0
        rw [show m + 1 - 1 = m by omega] at f0' e2
        clear f0 hji
        go_wp2
        go_roundw
        case rel => exact ⟨m + 1 + 1, by omega, by go_num, by rw [HE.out, HE2.out]; exact ho, hg⟩
        case measure => simp [intOf]; omega
    · obtain rfl : j = xs.length := by omega
      go_wp2
      go_ret2
      exact ⟨_, _, rfl, ho.out.o1.ints, ho.out.o2.ints, hg.out⟩
end Go.Proofs.YtnjfhpgmogopnaaGreat
section
set_option linter.unusedSimpArgs false
set_option linter.unusedVariables false
set_option maxRecDepth 100000
set_option maxHeartbeats 1000000
namespace Go.Proofs.YtnjfhpgmogopnaaGreat
open Go.ChangeShapes Go.WideShapes Go.ChangeAt Go.RowKit
def sumS (xs : List Int) : Int := sumF id xs
theorem sumS_append (xs ys : List Int) : sumS (xs ++ ys) = sumS xs + sumS ys := sumF_append id xs ys
theorem sumS_bd {xs : List Int} (hb : ∀ x ∈ xs, 0 ≤ x ∧ x ≤ 1000) : 0 ≤ sumS xs ∧ sumS xs ≤ 1000 * xs.length := by
  induction xs with
  | nil => simp [sumS, sumF]
  | cons x xs ih =>
    have h1 := ih (fun y hy => hb y (List.mem_cons_of_mem _ hy))
    have h2 := hb x List.mem_cons_self
    simp only [sumS, sumF, id_eq, List.length_cons] at *
    omega
theorem sumOfS_any (w : World) (S : Nat → Prop) (v : Value) (xs : List Int) (h : Ints w S v xs) (hl : xs.length ≤ 100000) (hb : ∀ x ∈ xs, 0 ≤ x ∧ x ≤ 1000) :
    Calls Tryz.prog 114 #[v] w fun e w' => e = .returned (.int .i64 (sumS xs)) ∧ w = w' := by
  obtain ⟨A, c, rfl, hlc, hcm, -⟩ := h.shape
  have H := Lib.hid h
  have HB := Lib.hid hb
  clear h hb
  go_enter Tryz.func114, Tryz.ntmps114
  go_wp2
  go_loop [3, 5, 8] (fun s _ i => ∃ j : Nat, j ≤ xs.length ∧ i = .int .i64 j ∧ s = .int .i64 (sumS (xs.take j))) (fun _ _ i => xs.length - (intOf i).toNat)
  case atStart => exact ⟨0, by omega, rfl, rfl⟩
  case round =>
    obtain ⟨j, hj, rfl, rfl⟩ := hrel
    by_cases hlt : j < xs.length
    · obtain ⟨b, o, rfl, -, hc⟩ := H.out.ix hlt
      have f1 := hc j hlt
      rw [ix_eq hlt] at f1
      have hx := HB.out xs[j] (List.getElem_mem hlt)
      have hs := sumS_bd (xs := xs.take j) (fun x hx => HB.out x (List.mem_of_mem_take hx))
      have hq : (xs.take j).length ≤ 100000 := by rw [List.length_take]; omega
      have HT := Lib.hid (show sumS (xs.take (j + 1)) = sumS (xs.take j) + xs[j] by rw [List.take_succ_eq_append_getElem hlt, sumS_append]; simp [sumS, sumF])
      clear hc
      go_wp2
      go_round
      case rel => exact ⟨j + 1, by omega, by go_num, by rw [HT.out]⟩
      case measure => simp [intOf]; omega
    · obtain rfl : j = xs.length := by omega
      have HX := Lib.hid (show xs.take xs.length = xs by rw [List.take_length])
      go_wp2
      go_ret
      exact ⟨ret_int (by simp), rfl⟩

def posM (ks : List Int) (j : Nat) : Nat := (sumF madeK (ks.take j)).toNat
theorem posM_int (ks : List Int) (j : Nat) : (posM ks j : Int) = sumF madeK (ks.take j) := by
  unfold posM
  have := sumF_bd madeK 0 4 (by omega) (fun x => by have := madeK_bd x; omega) (ks.take j)
  omega
theorem posM_succ {ks : List Int} {j : Nat} (h : j < ks.length) : posM ks (j + 1) = posM ks j + (madeK ks[j]).toNat := by
  have h1 := posM_int ks j
  have h2 := posM_int ks (j + 1)
  rw [sumF_take madeK h] at h2
  have := madeK_bd ks[j]
  omega
theorem stepS_len (k a b : Int) : (stepS k a b).length = (madeK k).toNat := by
  unfold stepS
  split
  · rename_i h; subst h; rfl
  · split
    · rename_i h; subst h; rfl
    · simp
theorem aftTo_length {st ks : List Int} : ∀ {j : Nat}, j ≤ ks.length → (aftTo st ks j).length = posM ks j
  | 0, _ => rfl
  | j + 1, h => by
    rw [aftTo_succ, List.length_append, aftTo_length (by omega), posM_succ (by omega)]
    unfold stepAt
    rw [stepS_len, ix_eq (by omega)]
/-- the stacks that a stitch takes -/
def tookAt (st ks : List Int) (i : Nat) : List Int := (st.drop (posS ks i)).take (takenK (ix ks i)).toNat
def chgAt (st ks : List Int) (i : Nat) : Int := sumS (stepAt st ks i) - sumS (tookAt st ks i)
def ordT (d : Int) (n t : Nat) : Nat := if d = 1 then t else n - 1 - t
def parS (d : Int) (st ks : List Int) : Nat → Int
  | 0 => sumS st
  | t + 1 => parS d st ks t + chgAt st ks (ordT d ks.length t)
def thinTo (d : Int) (st ks : List Int) (j : Nat) : Bool := (List.range j).all fun t => decide (parS d st ks (t + 1) ≤ 12)
def thinB (d : Int) (st ks : List Int) : Bool := thinTo d st ks ks.length
theorem thinTo_succ (d : Int) (st ks : List Int) (j : Nat) : thinTo d st ks (j + 1) = (thinTo d st ks j && decide (parS d st ks (j + 1) ≤ 12)) := by
  unfold thinTo; rw [List.range_succ, List.all_append]; simp
theorem thinTo_false {d : Int} {st ks : List Int} {j n : Nat} (hj : j < n) (h : ¬ parS d st ks (j + 1) ≤ 12) : thinTo d st ks n = false := by
  unfold thinTo
  rw [Bool.eq_false_iff]
  intro hh
  have := List.all_eq_true.1 hh j (by simpa using hj)
  exact h (of_decide_eq_true this)
/-- what stands where a row fits its stacks -/
structure Fits (st ks : List Int) : Prop where
  s : stkB st = true
  k : stB ks = true
  sum : sumF takenK ks = st.length
theorem saC_fits {st ks : List Int} (h : saC st ks = 0) : Fits st ks ∧ saL st ks = aftTo st ks ks.length := by
  have hh := h
  unfold saC at h
  cases hb : (stkB st && stB ks) with
  | false => rw [hb] at h; simp at h
  | true =>
    by_cases hs : sumF takenK ks = st.length
    · rw [Bool.and_eq_true] at hb
      refine ⟨⟨hb.1, hb.2, hs⟩, ?_⟩
      unfold saL
      rw [hh, if_pos rfl]
    · rw [hb, if_pos rfl, if_neg hs] at h; omega
theorem Fits.pos {st ks : List Int} (h : Fits st ks) {i : Nat} (hi : i < ks.length) : posS ks i + (takenK ks[i]).toNat ≤ st.length := by
  have h1 := posS_succ hi
  have h2 := posS_le ks (i + 1)
  have := h.sum
  omega
theorem Fits.took {st ks : List Int} (h : Fits st ks) (i : Nat) : (tookAt st ks i).length ≤ 4 ∧ ∀ x ∈ tookAt st ks i, 0 ≤ x ∧ x ≤ 1000 := by
  refine ⟨?_, fun x hx => ?_⟩
  · unfold tookAt
    rw [List.length_take]
    have := takenK_bd (ix ks i)
    omega
  · have := stkB_bd h.s x (List.mem_of_mem_drop (List.mem_of_mem_take hx)); omega
theorem sumS_le5 : ∀ {xs : List Int}, (∀ x ∈ xs, 0 ≤ x ∧ x ≤ 5) → 0 ≤ sumS xs ∧ sumS xs ≤ 5 * xs.length
  | [], _ => by simp [sumS, sumF]
  | x :: xs, h => by
    have h1 := sumS_le5 (xs := xs) fun y hy => h y (by simp [hy])
    have h2 := h x (by simp)
    simp only [sumS, sumF, id_eq, List.length_cons] at *
    omega
theorem Fits.step {st ks : List Int} (h : Fits st ks) {i : Nat} (hi : i < ks.length) : (stepAt st ks i).length ≤ 4 ∧ ∀ x ∈ stepAt st ks i, 1 ≤ x ∧ x ≤ 5 :=
  ⟨stepS_length _ _ _, fun x hx => aftTo_bd h.s h.sum h.k (i + 1) (by omega) x (by rw [aftTo_succ]; exact List.mem_append_right _ hx)⟩
theorem Fits.chg {st ks : List Int} (h : Fits st ks) {i : Nat} (hi : i < ks.length) : -20 ≤ chgAt st ks i ∧ chgAt st ks i ≤ 20 := by
  have h1 := h.step hi
  have h2 := h.took i
  have a := sumS_le5 (xs := stepAt st ks i) fun x hx => by have := h1.2 x hx; omega
  have b := sumS_le5 (xs := tookAt st ks i) fun x hx => by have := stkB_bd h.s x (List.mem_of_mem_drop (List.mem_of_mem_take hx)); omega
  unfold chgAt
  omega
theorem Fits.par {st ks : List Int} (h : Fits st ks) (d : Int) : ∀ t, t ≤ ks.length → -20 * (t : Int) ≤ parS d st ks t ∧ parS d st ks t ≤ 40 + 20 * t
  | 0, _ => by
    have b := sumS_le5 (xs := st) fun x hx => by have := stkB_bd h.s x hx; omega
    have := stkB_len h.s
    simp only [parS]
    omega
  | t + 1, ht => by
    have ih := h.par d t (by omega)
    have hc := h.chg (i := ordT d ks.length t) (by unfold ordT; split <;> omega)
    simp only [parS]
    omega
end Go.Proofs.YtnjfhpgmogopnaaGreat
end
section
set_option linter.unusedSimpArgs false
set_option linter.unusedVariables false
set_option maxRecDepth 100000
set_option maxHeartbeats 400000
namespace Go.Proofs.YtnjfhpgmogopnaaGreat
open Go.ChangeShapes Go.WideShapes Go.ChangeAt Go.RowKit
def chgs (st ks : List Int) (j : Nat) : List Int := (List.range j).map (chgAt st ks)
theorem chgs_succ (st ks : List Int) (j : Nat) : chgs st ks (j + 1) = chgs st ks j ++ [chgAt st ks j] := by simp [chgs, List.range_succ]
theorem chgs_length (st ks : List Int) (j : Nat) : (chgs st ks j).length = j := by simp [chgs]
theorem chgs_get (st ks : List Int) {j i : Nat} (h : i < j) : ix (chgs st ks j) i = chgAt st ks i := by
  unfold ix chgs
  rw [List.getD_eq_getElem?_getD, List.getElem?_map, List.getElem?_range h]
  rfl
theorem box3 (w : World) (a b c : Value) (t : TypeId) : (w.alloc (.cells #[a, b, c] t)).cell? ⟨w.heap.size, 0, none⟩ = some a ∧ (w.alloc (.cells #[a, b, c] t)).cell? ⟨w.heap.size, 1, none⟩ = some b ∧ (w.alloc (.cells #[a, b, c] t)).cell? ⟨w.heap.size, 2, none⟩ = some c := ⟨cell_new _ _ _ _, cell_new _ _ _ _, cell_new _ _ _ _⟩
/-- the three cells of a row's own box -/
def Bx (w : World) (g : Nat) (a b c : Value) : Prop := w.cell? ⟨g, 0, none⟩ = some a ∧ w.cell? ⟨g, 1, none⟩ = some b ∧ w.cell? ⟨g, 2, none⟩ = some c
theorem Bx.keep {S : Nat → Prop} {w w' : World} {g : Nat} {a b c : Value} (h : Bx w g a b c) (k : Chg S w w') (hn : ¬ S g) : Bx w' g a b c := ⟨Chg.cell k h.1 hn, Chg.cell k h.2.1 hn, Chg.cell k h.2.2 hn⟩
theorem Bx.up {w w' : World} {g : Nat} {a b c : Value} (h : Bx w g a b c) (k : Up w w') : Bx w' g a b c := h.keep k id
theorem keepsLimit_any (w : World) (S S2 : Nat → Prop) (u : Value) (d cr0 : Int) (A2 : Option Addr) (c2 : Nat) (st ks : List Int) (h2 : Ints w S2 (.slice A2 ks.length c2) ks) (h : Ints w S u st) (hf : Fits st ks) (hd : d = 1 ∨ d = -1) (hdc : I64 cr0) :
    Calls Tryz.prog 77 #[.agg #[.int .i64 d, .int .i64 cr0, .slice A2 ks.length c2], u] w fun e w' => e = .returned (.bool (thinB d st ks)) ∧ Up w w' := by
  obtain ⟨A, c, rfl, hlc, hcm, -⟩ := h.shape
  obtain ⟨A9, c9, he9, hlc2, hcm2, -⟩ := h2.shape
  obtain ⟨rfl, rfl⟩ : A2 = A9 ∧ c2 = c9 := by simpa using he9
  have U0 := (Chg.refl Nowhere w).alloc (.cells #[.int .i64 d, .int .i64 cr0, .slice A2 ks.length c2] 72)
  have H := Lib.hid ((h.mono (T := fun b => b < w.heap.size) fun _ h _ => h).up U0)
  have H2 := Lib.hid ((h2.mono (T := fun b => b < w.heap.size) fun _ h _ => h).up U0)
  have hks := stB_len hf.k
  have hst := stkB_len hf.s
  have HF := Lib.hid hf
  have Hw2 := Lib.hid (h2.mono (T := fun b => b < w.heap.size) fun _ h _ => h)
  have HDC := Lib.hid hdc
  have HDI : Hid (I64 d) := Lib.hid (by rcases hd with rfl | rfl <;> (unfold I64; omega))
  have B0 := Lib.hid (show Bx (w.alloc (.cells #[.int .i64 d, .int .i64 cr0, .slice A2 ks.length c2] 72)) w.heap.size _ _ _ from box3 w _ _ _ _)
  have hz0 : (w.alloc (.cells #[.int .i64 d, .int .i64 cr0, .slice A2 ks.length c2] 72)).heap.size = w.heap.size + 1 := by simp
  have HZ0 := Lib.hid hz0
  have b2 := B0.out.2.2
  have HM := Lib.hid (show OwnI ((w.alloc (.cells #[.int .i64 d, .int .i64 cr0, .slice A2 ks.length c2] 72)).alloc (.cells #[] 2)) (w.heap.size + 1) (.slice (some ⟨w.heap.size + 1, 0, none⟩) 0 0) [] by have h := OwnI.made (w.alloc (.cells #[.int .i64 d, .int .i64 cr0, .slice A2 ks.length c2] 72)) (w.heap.size + 1) (Nat.le_of_eq hz0.symm); rw [hz0] at h; exact h)
  have b2' := Chg.cell ((Chg.refl Nowhere (w.alloc (.cells #[.int .i64 d, .int .i64 cr0, .slice A2 ks.length c2] 72))).alloc (.cells #[] 2)) b2 id
  clear h h2 hf he9 hz0 U0 hdc
  go_enter Tryz.func77, Tryz.ntmps77
  go_wp2_with fail
  refine (sumOfS_any _ _ _ st H.out (by omega) (fun x hx => by have := stkB_bd HF.out.s x hx; omega)).mono ?_
  rintro e w' ⟨rfl, rfl⟩
  go_wp2
  clear b2 b2'
  go_loopw [6, 7, 22] (fun q r i wr => ∃ (j : Nat), j ≤ ks.length ∧ i = .int .i64 j ∧ Hid (OwnI wr (w.heap.size + 1) q (chgs st ks j)) ∧ Hid (Ints wr (fun b => b < w.heap.size) r (st.drop (posS ks j))) ∧ Hid (Bx wr w.heap.size (.int .i64 d) (.int .i64 cr0) (.slice A2 ks.length c2)) ∧ Hid (Up w wr)) (fun _ _ i _ => ks.length - (intOf i).toNat)
  case atStart =>
    refine ⟨0, by omega, rfl, HM.out, H.out.up ((Chg.refl _ _).alloc _), B0.out.up ((Chg.refl _ _).alloc _), ((Chg.refl _ _).alloc _).alloc _⟩
  case round =>
    obtain ⟨j, hj, rfl, hq, hr, hb, hu⟩ := hrel
    have HZ := Lib.hid hu.out.size
    by_cases hlt : j < ks.length
    · obtain ⟨b, o, rfl, -, hc⟩ := (Hw2.out.up hu.out).ix hlt
      have f1 := hc j hlt
      rw [ix_eq hlt] at f1
      have HKJ := Lib.hid (stB_kind HF.out.k _ (List.getElem_mem hlt))
      have HPS := Lib.hid (posS_succ hlt)
      have HPT := Lib.hid (HF.out.pos hlt)
      obtain ⟨kd, HKD⟩ : ∃ kd, Hid (ks[j] = kd) := ⟨_, Lib.hid rfl⟩
      rw [HKD.out] at f1 HKJ HPS HPT
      obtain ⟨tk, HTK⟩ : ∃ tk : Nat, Hid (takenK kd = tk) := ⟨(takenK kd).toNat, Lib.hid (by have := takenK_bd kd; omega)⟩
      rw [HTK.out] at HPS HPT
      clear hc
      obtain ⟨Ar, cr, rfl, hlr, hcr, har⟩ := hr.out.shape
      have hpl : posS ks j + tk ≤ st.length := by have := HPT.out; simpa using this
      have hdl : (st.drop (posS ks j)).length = st.length - posS ks j := by simp
      have htc : tk ≤ cr := by omega
      have htc2 : (tk : Int) ≤ cr := by omega
      have htl : (tk : Int) ≤ (st.drop (posS ks j)).length := by omega
      have HTKA : Hid (tookAt st ks j = (st.drop (posS ks j)).take tk) := Lib.hid (by unfold tookAt; rw [ix_eq hlt, HKD.out, HTK.out]; simp)
      have HSTL := Lib.hid (stepS_take (st := st) (p := posS ks j) HKJ.out HTK.out.symm hpl)
      have HR := Lib.hid (show Ints wr (fun b => b < w.heap.size) (.slice Ar tk cr) (tookAt st ks j) by rw [HTKA.out]; exact hr.out.took (by omega) rfl)
      have HTL : Hid (((tookAt st ks j).length : Int) = takenK kd) := Lib.hid (by rw [HTKA.out, List.length_take, hdl, HTK.out]; omega)
      have HTLN : Hid ((tookAt st ks j).length = tk) := Lib.hid (by rw [HTKA.out, List.length_take, hdl]; omega)
      have HSA : Hid (stepAt st ks j = stepS kd (ix (tookAt st ks j) 0) (ix (tookAt st ks j) 1)) := Lib.hid (by rw [HTKA.out, HSTL.out.1]; unfold stepAt; rw [ix_eq hlt, HKD.out])
      go_wp2_with fail
      refine (ColumnsTaken_any _ _).mono ?_
      rintro e w' ⟨rfl, rfl⟩
      rw [takenOf_ok HKJ.out, HTK.out]
      go_wp2_with fail
      refine (madeStacks_any _ _ _ (tookAt st ks j) HR.out kd HKJ.out HTL.out (fun x hx => stkB_bd HF.out.s x (List.mem_of_mem_drop (List.mem_of_mem_take hx)))).mono ?_
      rintro e w2 ⟨v2, rfl, k2, g2⟩
      rw [← HSA.out] at k2
      obtain ⟨A3, c3, rfl, hl3, hc3, -⟩ := k2.shape
      have K2 := Lib.hid k2
      have G2 := Lib.hid g2
      have hz2 := g2.size
      clear k2 g2
      have HBX : Hid (w.heap.size + 1 ≤ w2.heap.size) := Lib.hid (by have h := World.block_lt_of_cell? _ _ hb.out.1; have h : w.heap.size < wr.heap.size := h; omega)
      have HQ2 := Lib.hid (hq.out.up G2.out)
      have HR2 := Lib.hid (hr.out.up G2.out)
      have HT2 := Lib.hid (HR.out.up G2.out)
      have HB2 := Lib.hid (hb.out.up G2.out)
      have hcg := HF.out.chg hlt
      have hs1 := HF.out.step hlt
      have hs2 := HF.out.took j
      have y1 : IntKind.i64.wrap (sumS (stepAt st ks j) - sumS (tookAt st ks j)) = sumS (stepAt st ks j) - sumS (tookAt st ks j) := IntWalk.i64_in _ (by unfold chgAt at hcg; omega)
      have HI : Hid (I64 (sumS (stepAt st ks j) - sumS (tookAt st ks j))) := Lib.hid (by unfold chgAt at hcg; unfold I64; omega)
      have HLN : Hid ((chgs st ks j).length + [sumS (stepAt st ks j) - sumS (tookAt st ks j)].length ≤ 1099511627776) := Lib.hid (by rw [chgs_length]; simp; omega)
      have HS1 := Lib.hid (show (stepAt st ks j).length ≤ 100000 ∧ ∀ x ∈ stepAt st ks j, 0 ≤ x ∧ x ≤ 1000 from ⟨by omega, fun x hx => by have := hs1.2 x hx; omega⟩)
      have HS2 := Lib.hid (show (tookAt st ks j).length ≤ 100000 ∧ ∀ x ∈ tookAt st ks j, 0 ≤ x ∧ x ≤ 1000 from ⟨by omega, hs2.2⟩)
      have HCH : Hid (chgAt st ks j = sumS (stepAt st ks j) - sumS (tookAt st ks j)) := Lib.hid rfl
      clear hcg hs1 hs2 HSA HTKA HSTL HTL
      generalize stepAt st ks j = MS at *
      generalize tookAt st ks j = TS at *
      go_wp2
      go_region_law (first | (go_simp; go_at_call 114; with_reducible refine (sumOfS_any _ _ (.slice A3 MS.length c3) MS (K2.out.up (by repeat (first | exact Chg.refl _ _ | apply Chg.drew | apply Chg.drewN | refine Chg.alloc ?_ _))) HS1.out.1 HS1.out.2).mono ?_; rintro e w' ⟨rfl, rfl⟩) | (go_simp; go_at_call 114; with_reducible refine (sumOfS_any _ _ (.slice Ar tk cr) TS (HT2.out.up (by repeat (first | exact Chg.refl _ _ | apply Chg.drew | apply Chg.drewN | refine Chg.alloc ?_ _))) HS2.out.1 HS2.out.2).mono ?_; rintro e w' ⟨rfl, rfl⟩) | (refine step_appI (by rfl) (.tmp 36) (.tmp 44) (by rfl) (w.heap.size + 1) _ (chgs st ks j) (by simp [Act.eval, Act.put]) ((HQ2.out.up (by repeat (first | exact Chg.refl _ _ | apply Chg.drew | apply Chg.drewN | refine Chg.alloc ?_ _))).alloc _) _ _ [sumS MS - sumS TS] (by simp [Act.eval, Act.put]) (lit1 _ _ HI.out 0 (Nat.zero_le _)) HLN.out ?_ ?_; (have h9 := HBX.out; first | omega | (simp; omega)); intro v' w3 ho1 _ _ hg1; have HO := Lib.hid ho1; have HG := Lib.hid hg1; clear ho1 hg1))
      simp [Act.put, goInt]
      have HR3 := Lib.hid ((HR2.out.up (by repeat (first | exact Chg.refl _ _ | apply Chg.drew | apply Chg.drewN | refine Chg.alloc ?_ _))).keep HG.out (fun b hb h1 h9 => by have h1 : b < w.heap.size := h1; have h9 : w.heap.size + 1 ≤ b := h9; omega))
      have HB3 := Lib.hid ((HB2.out.up (by repeat (first | exact Chg.refl _ _ | apply Chg.drew | apply Chg.drewN | refine Chg.alloc ?_ _))).keep HG.out (fun h9 => by have h9 : w.heap.size + 1 ≤ w.heap.size := h9; omega))
      have HU3 := Lib.hid (Chg.new (Chg.trans (Chg.trans hu.out G2.out) (by repeat (first | exact Chg.refl _ _ | apply Chg.drew | apply Chg.drewN | refine Chg.alloc ?_ _))) HG.out (fun i hi h9 => by have h9 : w.heap.size + 1 ≤ i := h9; omega) : Up w w3)
      go_wp2
      go_roundw
      case rel =>
        refine ⟨j + 1, by omega, by go_num, by rw [chgs_succ, HCH.out]; exact HO.out, ?_, HB3.out, HU3.out⟩
        have e9 : posS ks (j + 1) = posS ks j + tk := by rw [HPS.out]; simp
        rw [e9, ← List.drop_drop]
        refine HR3.out.dropt (by omega) (by omega) rfl (fun b o e hlt9 => ?_) (fun e => ?_)
        · subst e
          rw [if_neg (by omega)]
          unfold Addr.add
          by_cases h0 : tk = 0 <;> simp [h0]
        · by_cases h0 : cr = tk
          · omega
          · rw [if_neg h0] at e
            have : Ar = none := by cases Ar with | none => rfl | some a => simp at e
            have := har this
            omega
      case measure => first | (simp [intOf]; done) | (simp [intOf]; omega)
    · obtain rfl : j = ks.length := by omega
      have e0 := hb.out.1
      have e1 := hb.out.2.1
      have e2 := hb.out.2.2
      have hwz : w.heap.size < wr.heap.size := World.block_lt_of_cell? _ _ e0
      have HWZ := Lib.hid hwz
      go_wp2_with fail
      refine (order_any _ (fun b => b < w.heap.size) _ ⟨d, cr0, ks⟩ ⟨_, rfl, Hw2.out.up hu.out, HDI.out, HDC.out⟩ hd hks).mono ?_
      rintro e w2 ⟨v2, rfl, k2, g2⟩
      have HO2 := Lib.hid (show Ints w2 _ v2 (ordM d ks.length) from k2)
      have HU2 := Lib.hid (Chg.trans hu.out g2)
      have HC2 := Lib.hid (hq.out.ints.up g2)
      obtain ⟨A4, c4, rfl, hl4, hc4, -⟩ := k2.shape
      obtain ⟨A5, c5, rfl, hl5, hc5, -⟩ := hq.out.ints.shape
      have hol := ordM_length d ks.length
      clear k2 g2 e0 e1 e2
      go_wp2
      go_loop [5, 14, 53] (fun s _ i => ∃ t : Nat, t ≤ ks.length ∧ i = .int .i64 t ∧ s = .int .i64 (parS d st ks t) ∧ Hid (thinTo d st ks t = true)) (fun _ _ i => ks.length - (intOf i).toNat)
      case atStart => exact ⟨0, by omega, rfl, rfl, rfl⟩
      case round =>
        obtain ⟨t, ht, rfl, rfl, hth⟩ := hrel
        by_cases hlt : t < ks.length
        · obtain ⟨oi, HOI⟩ : ∃ oi : Nat, Hid (ordT d ks.length t = oi) := ⟨_, Lib.hid rfl⟩
          have hoi : oi < ks.length := by rw [← HOI.out]; unfold ordT; split <;> omega
          obtain ⟨b4, o4, rfl, -, hc4'⟩ := HO2.out.ix (show t < (ordM d ks.length).length by omega)
          have f1 := hc4' t (by omega)
          have e1 : ix (ordM d ks.length) t = (oi : Int) := by
            rw [ix_eq (by omega), ordM_get, ← HOI.out]
            unfold ordT
            split <;> omega
          rw [e1] at f1
          have hcl := chgs_length st ks ks.length
          obtain ⟨b5, o5, rfl, -, hc5'⟩ := HC2.out.ix (show oi < (chgs st ks ks.length).length by omega)
          have f2 := hc5' oi (by omega)
          rw [chgs_get st ks hoi] at f2
          have hp1 := HF.out.par d t (by omega)
          have hp2 := HF.out.chg hoi
          have HPT : Hid (parS d st ks (t + 1) = parS d st ks t + chgAt st ks oi) := Lib.hid (by simp only [parS]; rw [HOI.out])
          have y1 : IntKind.i64.wrap (parS d st ks t + chgAt st ks oi) = parS d st ks (t + 1) := by rw [HPT.out]; exact IntWalk.i64_in _ (by omega)
          generalize chgAt st ks oi = cg at *
          have hl1 : (t : Int) < (ordM d ks.length).length := by omega
          have hl2 : (oi : Int) < (chgs st ks ks.length).length := by omega
          clear hc4' hc5' e1
          by_cases h12 : parS d st ks (t + 1) ≤ 12
          · have HT2 : Hid (thinTo d st ks (t + 1) = true) := Lib.hid (by rw [thinTo_succ, hth.out, decide_eq_true h12]; rfl)
            have t12 : decide ((12 : Int) < parS d st ks (t + 1)) = false := decide_eq_false (by omega)
            clear h12
            go_wp2
            go_round
            case rel => exact ⟨t + 1, by omega, by go_num, by first | rfl | rw [y1], HT2.out⟩
            case measure => first | (simp [intOf]; done) | (simp [intOf]; omega)
          · have HV := Lib.hid (thinTo_false hlt h12)
            have t12 : decide ((12 : Int) < parS d st ks (t + 1)) = true := decide_eq_true (by omega)
            clear h12
            go_wp2
            go_ret
            exact ⟨ret_bool (by first | exact HV.out.symm | (unfold thinB; exact HV.out.symm)), HU2.out⟩
        · obtain rfl : t = ks.length := by omega
          go_wp2
          go_ret
          exact ⟨ret_bool (by first | exact hth.out.symm | (unfold thinB; exact hth.out.symm)), HU2.out⟩
end Go.Proofs.YtnjfhpgmogopnaaGreat
end
