/- slices.Reverse on numbers; the order of a row's stitches on both sides; the first of each run of needles. No condition but room. The targets of the columns of a row, on both sides. No condition but room. RowTargets on both sides. No condition but room. The order of a row's stitches on both sides; the first of each run of needles. No condition but room. -/
import Derived.Test.YtgdcffbakjfacaaDoorFC9
import Derived.RegionTactic
import Derived.ChangeAlike
import Derived.Test.YtgdcffbakjfacaaDoorFC7
namespace Go.Proofs.YtgdcffbakjfacaaDoor
open Go.ChangeShapes Go.WideShapes Go.ChangeAt Go.RowKit
/-- in the middle of turning a list round: the first k and the last k have changed places -/
def revAt (xs : List Int) (k t : Nat) : Int := if t < k ∨ xs.length - k ≤ t then ix xs (xs.length - 1 - t) else ix xs t
theorem revAt_k {xs : List Int} {k m : Nat} (hm : m = xs.length - 1 - k) (_h : k < m) : revAt xs (k + 1) k = ix xs m := by
  unfold revAt
  rw [if_pos (by omega), hm]
theorem revAt_m {xs : List Int} {k m : Nat} (hm : m = xs.length - 1 - k) (h : k < m) : revAt xs (k + 1) m = ix xs k := by
  unfold revAt
  rw [if_pos (by omega), show xs.length - 1 - m = k by omega]
theorem revAt_no {xs : List Int} {k m t : Nat} (hm : m = xs.length - 1 - k) (h : k < m) (h1 : t ≠ k) (h2 : t ≠ m) (ht : t < xs.length) : revAt xs (k + 1) t = revAt xs k t := by
  unfold revAt
  by_cases hh : t < k ∨ xs.length - k ≤ t
  · rw [if_pos hh, if_pos (by omega)]
  · rw [if_neg hh, if_neg (by omega)]
theorem revAt_end {xs : List Int} {k t : Nat} (h : ¬ k + 1 < xs.length - k) (hk : 2 * k ≤ xs.length) (ht : t < xs.length) : revAt xs k t = ix xs (xs.length - 1 - t) := by
  unfold revAt
  by_cases hh : t < k ∨ xs.length - k ≤ t
  · rw [if_pos hh]
  · rw [if_neg hh, show xs.length - 1 - t = t by omega]
set_option maxRecDepth 100000 in
set_option maxHeartbeats 4000000 in
theorem reverse_go (w : World) (b o c : Nat) (xs : List Int) (hlc : xs.length ≤ c) (hcm : c ≤ 9223372036854775807) (_hbl : b < w.heap.size)
    (hc : ∀ t, t < xs.length → w.cell? ⟨b, o + t, none⟩ = some (.int .i64 (ix xs t)) ∧ w.frozen? ⟨b, o + t, none⟩ = false) :
    Calls Tryd.prog 87 #[.slice (some ⟨b, o, none⟩) xs.length c] w fun e w' => e = .returned (.tuple #[]) ∧ Chg (fun x => x = b) w w' ∧ ∀ t, t < xs.length → w'.cell? ⟨b, o + t, none⟩ = some (.int .i64 (ix xs (xs.length - 1 - t))) ∧ w'.frozen? ⟨b, o + t, none⟩ = false := by
  have Hc := Lib.hid hc
  clear hc
  go_enter Tryd.func87, Tryd.ntmps87
  go_wp2
  go_loopw [2, 3] (fun i j wr => ∃ k : Nat, 2 * k ≤ xs.length ∧ i = .int .i64 k ∧ j = .int .i64 ((xs.length : Int) - 1 - k) ∧ Hid (Chg (fun x => x = b) w wr) ∧ Hid (∀ t, t < xs.length → wr.cell? ⟨b, o + t, none⟩ = some (.int .i64 (revAt xs k t)) ∧ wr.frozen? ⟨b, o + t, none⟩ = false)) (fun i _ _ => xs.length - (intOf i).toNat)
  case atStart => exact ⟨0, by omega, rfl, by simp, Chg.refl _ _, fun t ht => by
    have := Hc.out t ht
    unfold revAt
    rw [if_neg (by omega)]
    exact this⟩
  case round =>
    obtain ⟨k, hk, rfl, rfl, hg, hcs⟩ := hrel
    by_cases hlt : k + 1 < xs.length - k
    · obtain ⟨m, hm⟩ : ∃ m : Nat, m = xs.length - 1 - k := ⟨_, rfl⟩
      have hmI : (xs.length : Int) - 1 - k = m := by omega
      have hmk : k < m ∧ m < xs.length := by omega
      obtain ⟨hm1, hm2⟩ := hmk
      obtain ⟨p1, p2⟩ := hcs.out k (by omega)
      obtain ⟨p3, p4⟩ := hcs.out m hm2
      have e1 : revAt xs k k = ix xs k := by unfold revAt; rw [if_neg (by omega)]
      have e2 : revAt xs k m = ix xs m := by unfold revAt; rw [if_neg (by omega)]
      rw [e1] at p1
      rw [e2] at p3
      have HM := Lib.hid hm
      rw [hmI]
      have HMI := Lib.hid hmI
      clear e1 e2 hm hmI
      have hdd : decide ((k : Int) < (m : Int)) = true := decide_eq_true (by omega)
      have hnn : ¬ o + k = o + m := by omega
      have hnn2 : ¬ o + m = o + k := by omega
      go_wp2
      go_region
      all_goals go_wp2
      all_goals
        refine ⟨⟨k + 1, by omega, by go_num, ?_, ?_, ?_⟩, ?_⟩
        · have := HM.out; simp only [Value.int.injEq, true_and]; omega
        · exact Chg.drew (Chg.setCell (Chg.setCell hg.out (.inl rfl) _) (.inl rfl) _)
        · intro t ht
          obtain ⟨q1, q2⟩ := hcs.out t ht
          have hk1 : (wr.setCell ⟨b, o + k, none⟩ (.int .i64 (ix xs m))).cell? ⟨b, o + m, none⟩ = some (.int .i64 (ix xs m)) := by
            rw [World.cell?_setCell_other _ _ _ _ (fun h => hnn (Addr.mk.inj h).2.1)]
            exact p3
          by_cases ek : t = k
          · subst ek
            rw [revAt_k HM.out hm1]
            refine ⟨?_, by simpa using q2⟩
            show (World.setCell _ _ _).cell? _ = _
            rw [World.cell?_setCell_other _ _ _ _ (fun h => hnn2 (Addr.mk.inj h).2.1), World.cell?_setCell_same _ _ _ p1]
          · by_cases em : t = m
            · subst em
              rw [revAt_m HM.out hm1]
              refine ⟨?_, by simpa using q2⟩
              show (World.setCell _ _ _).cell? _ = _
              rw [World.cell?_setCell_same _ _ _ hk1]
            · rw [revAt_no HM.out hm1 ek em ht]
              refine ⟨?_, by simpa using q2⟩
              show (World.setCell _ _ _).cell? _ = _
              rw [World.cell?_setCell_other _ _ _ _ (fun h => em (by have := (Addr.mk.inj h).2.1; omega)), World.cell?_setCell_other _ _ _ _ (fun h => ek (by have := (Addr.mk.inj h).2.1; omega))]
              exact q1
        · simp [intOf]; omega
    · have hnot : ¬ (k : Int) < (xs.length : Int) - 1 - k := by omega
      have HE := Lib.hid (fun t (ht : t < xs.length) => revAt_end hlt hk ht)
      clear hlt
      go_wp2
      go_end0
      refine ⟨rfl, hg.out, fun t ht => ?_⟩
      rw [← HE.out t ht]
      exact hcs.out t ht
theorem reverse_any (w : World) (S : Nat → Prop) (v : Value) (xs : List Int) (h : Ints w S v xs) :
    Calls Tryd.prog 87 #[v] w fun e w' => e = .returned (.tuple #[]) ∧ Chg S w w' ∧ Ints w' S v xs.reverse := by
  obtain ⟨A, c, rfl, hlc, hcm, hx, hr, hnn⟩ := h
  by_cases hp : 0 < xs.length
  · obtain ⟨b, o, rfl, hS, hbl, hc⟩ := hr hp
    refine (reverse_go w b o c xs hlc hcm hbl (fun t ht => by rw [ix_eq ht]; exact hc t ht)).mono ?_
    rintro e w' ⟨he, hg, hcs⟩
    refine ⟨he, hg.mono (fun k _ hk => by rw [hk]; exact hS), _, c, by rw [List.length_reverse], by rw [List.length_reverse]; exact hlc, hcm, fun x hxx => hx x (List.mem_reverse.1 hxx), fun _ => ⟨b, o, rfl, hS, Nat.lt_of_lt_of_le hbl hg.size, fun t ht => ?_⟩, by simp⟩
    have ht' : t < xs.length := by simpa using ht
    have := hcs t ht'
    rw [ix_eq (show xs.length - 1 - t < xs.length by omega)] at this
    rw [List.getElem_reverse]
    exact this
  · have hn : xs = [] := List.eq_nil_of_length_eq_zero (by omega)
    subst hn
    clear hr hp
    go_enter Tryd.func87, Tryd.ntmps87
    go_wp2
    go_loop [2, 3] (fun i j => i = .int .i64 0 ∧ j = .int .i64 (-1)) (fun _ _ => 0)
    case atStart => exact ⟨rfl, by simp⟩
    case round =>
      obtain ⟨rfl, rfl⟩ := hrel
      go_wp2
      go_end0
      exact ⟨rfl, Chg.refl _ _, Ints.nil _ _ _ _ hcm hnn⟩
end Go.Proofs.YtgdcffbakjfacaaDoor
namespace Go.Proofs.YtgdcffbakjfacaaDoor
open Go.ChangeShapes Go.WideShapes Go.ChangeAt Go.RowKit
def ApartB (u v : Value) : Prop := ∀ g, u.ownBlock = some g → v.ownBlock ≠ some g
theorem ApartB.symm {u v : Value} (h : ApartB u v) : ApartB v u := fun g h1 h2 => h g h2 h1
/-- three rows under construction, each in a block of its own, beside two slices of slices that are read -/
structure T3 (w : World) (base lo hi : Nat) (v1 v2 v3 : Value) (x1 x2 x3 : List Int) (s1 s2 : Value) (l1 l2 : List (List Int)) : Prop where
  o1 : OwnI w base v1 x1
  o2 : OwnI w base v2 x2
  o3 : OwnI w base v3 x3
  d12 : ApartB v1 v2
  d13 : ApartB v1 v3
  d23 : ApartB v2 v3
  f1 : Off lo hi v1
  f2 : Off lo hi v2
  f3 : Off lo hi v3
  k1 : IntSS w (New lo hi) s1 l1
  k2 : IntSS w (New lo hi) s2 l2
  le : hi ≤ w.heap.size
section
variable {w w' : World} {base lo hi : Nat} {v1 v2 v3 v' s1 s2 : Value} {x1 x2 x3 y1 : List Int} {l1 l2 : List (List Int)}
theorem T3.rot (h : T3 w base lo hi v1 v2 v3 x1 x2 x3 s1 s2 l1 l2) : T3 w base lo hi v2 v3 v1 x2 x3 x1 s1 s2 l1 l2 :=
  ⟨h.o2, h.o3, h.o1, h.d23, h.d12.symm, h.d13.symm, h.f2, h.f3, h.f1, h.k1, h.k2, h.le⟩
theorem T3.up (h : T3 w base lo hi v1 v2 v3 x1 x2 x3 s1 s2 l1 l2) (g : Up w w') : T3 w' base lo hi v1 v2 v3 x1 x2 x3 s1 s2 l1 l2 :=
  ⟨h.o1.up g, h.o2.up g, h.o3.up g, h.d12, h.d13, h.d23, h.f1, h.f2, h.f3, h.k1.up g, h.k2.up g, Nat.le_trans h.le g.size⟩
theorem T3.off (h : T3 w base lo hi v1 v2 v3 x1 x2 x3 s1 s2 l1 l2) : ∀ b, b < w.heap.size → New lo hi b → ¬ v1.ownBlock = some b := fun b _ hn hb => by
  have := h.f1 b hb
  simp only [New] at hn
  omega
theorem T3.app (h : T3 w base lo hi v1 v2 v3 x1 x2 x3 s1 s2 l1 l2) (ho : OwnI w' base v' y1) (g : Chg (fun b => v1.ownBlock = some b) w w') (hb : ∀ b, v'.ownBlock = some b → v1.ownBlock = some b ∨ w.heap.size ≤ b) :
    T3 w' base lo hi v' v2 v3 y1 x2 x3 s1 s2 l1 l2 :=
  ⟨ho, h.o2.kept g (fun b hb2 h1 => h.d12 b h1 hb2), h.o3.kept g (fun b hb2 h1 => h.d13 b h1 hb2),
   fun b h1 h2 => (hb b h1).elim (fun h3 => h.d12 b h3 h2) (fun h3 => by have := (h.o2.lt h2).2; omega),
   fun b h1 h2 => (hb b h1).elim (fun h3 => h.d13 b h3 h2) (fun h3 => by have := (h.o3.lt h2).2; omega), h.d23,
   fun b h1 => (hb b h1).elim (h.f1 b) (fun h3 => .inr (Nat.le_trans h.le h3)), h.f2, h.f3, h.k1.keep g h.off, h.k2.keep g h.off, Nat.le_trans h.le g.size⟩
theorem T3.ints (h : T3 w base lo hi v1 v2 v3 x1 x2 x3 s1 s2 l1 l2) (g : Chg (fun b => v1.ownBlock = some b) w w') {u : Value} {ys : List Int} (hu : Ints w (New lo hi) u ys) : Ints w' (New lo hi) u ys := hu.keep g h.off
theorem T3.app2 {y2 : List Int} (h : T3 w base lo hi v1 v2 v3 x1 x2 x3 s1 s2 l1 l2) (ho : OwnI w' base v' y2) (g : Chg (fun b => v2.ownBlock = some b) w w') (hb : ∀ b, v'.ownBlock = some b → v2.ownBlock = some b ∨ w.heap.size ≤ b) :
    T3 w' base lo hi v1 v' v3 x1 y2 x3 s1 s2 l1 l2 := ((h.rot.app ho g hb).rot).rot
theorem T3.app3 {y3 : List Int} (h : T3 w base lo hi v1 v2 v3 x1 x2 x3 s1 s2 l1 l2) (ho : OwnI w' base v' y3) (g : Chg (fun b => v3.ownBlock = some b) w w') (hb : ∀ b, v'.ownBlock = some b → v3.ownBlock = some b ∨ w.heap.size ≤ b) :
    T3 w' base lo hi v1 v2 v' x1 x2 y3 s1 s2 l1 l2 := (h.rot.rot.app ho g hb).rot
end
def trTo (k s r : Int) (q : Nat) : List Tr := (List.range q).map (trOne k s r)
theorem trTo_succ (k s r : Int) (q : Nat) : trTo k s r (q + 1) = trTo k s r q ++ [trOne k s r q] := by simp [trTo, List.range_succ]
theorem trTo_all {k : Int} {n : Nat} (h : takenK k = n) (s r : Int) : trAt k s r = trTo k s r n := by unfold trAt trTo; rw [h]; simp
theorem trTo_length (k s r : Int) (q : Nat) : (trTo k s r q).length = q := by simp [trTo]
theorem ownsL_snoc (P : List Tr) (k s r : Int) (q : Nat) : ownsL (P ++ trTo k s r (q + 1)) = ownsL (P ++ trTo k s r q) ++ [2 * (s + q) + 1] := by
  rw [trTo_succ, ← List.append_assoc]
  unfold ownsL trOne
  rw [List.map_append]
  split <;> rfl
theorem togL_one {k : Int} (h : madeK k = 1) (P : List Tr) (s r : Int) (q : Nat) : togL (P ++ trTo k s r (q + 1)) = togL (P ++ trTo k s r q) ++ [2 * s + 1] := by
  rw [trTo_succ, ← List.append_assoc]
  unfold togL trOne
  rw [List.map_append, if_pos h]
  rfl
theorem movL_one {k : Int} (h : madeK k = 1) (P : List Tr) (s r : Int) (q : Nat) : movL (P ++ trTo k s r (q + 1)) = movL (P ++ trTo k s r q) ++ [2 * r + 1] := by
  rw [trTo_succ, ← List.append_assoc]
  unfold movL trOne
  rw [List.map_append, if_pos h]
  rfl
theorem togL_more {k : Int} (h : madeK k ≠ 1) (P : List Tr) (s r : Int) (q : Nat) : togL (P ++ trTo k s r (q + 1)) = togL (P ++ trTo k s r q) ++ [2 * (s + q) + 1] := by
  rw [trTo_succ, ← List.append_assoc]
  unfold togL trOne
  rw [List.map_append, if_neg h]
  rfl
theorem movL_more {k : Int} (h : madeK k ≠ 1) (P : List Tr) (s r : Int) (q : Nat) : movL (P ++ trTo k s r (q + 1)) = movL (P ++ trTo k s r q) ++ [2 * (r + q) + 1] := by
  rw [trTo_succ, ← List.append_assoc]
  unfold movL trOne
  rw [List.map_append, if_neg h]
  rfl
theorem kind_45 {k : Int} (h : k = 4 ∨ k = 5) : madeK k = 1 := by
  unfold madeK; rw [if_neg (by omega), if_neg (by omega)]
/-- a stitch that is neither 'left' nor 'right' and makes one column takes at most one -/
theorem taken_one {k : Int} (h : ¬ (k = 4 ∨ k = 5)) (hm : madeK k = 1) : takenK k ≤ 1 := by
  unfold takenK
  unfold madeK at hm
  split at hm
  · omega
  · split at hm
    · omega
    · split
      · omega
      · rw [if_neg (by omega)]
        first | omega | (split <;> omega)
theorem toglen (P : List Tr) (k s r : Int) (q : Nat) : (ownsL (P ++ trTo k s r q)).length = P.length + q ∧ (togL (P ++ trTo k s r q)).length = P.length + q ∧ (movL (P ++ trTo k s r q)).length = P.length + q := by
  simp [ownsL, togL, movL, trTo]
theorem trL_len_le {xs : List Int} {j : Nat} (h : xs.length ≤ 16) : (trL 0 0 (xs.take j)).length ≤ 64 := by
  have h1 := trL_length (xs.take j) 0 0
  have h2 := (sumF_bd takenK 0 4 (by omega) (fun x => by have := takenK_bd x; omega) (xs.take j)).2
  rw [List.length_take] at h2
  omega
theorem ix_count (a : Int) (n q : Nat) (h : q < n) : ix (countM a n) q = a + q := by
  rw [ix_eq (by rw [countM_len]; exact h), countM_get]
/-- three slices of the call's own, each in a block of its own -/
structure Own3 (w : World) (base : Nat) (v1 v2 v3 : Value) (x1 x2 x3 : List Int) : Prop where
  o1 : OwnI w base v1 x1
  o2 : OwnI w base v2 x2
  o3 : OwnI w base v3 x3
  d12 : ApartB v1 v2
  d13 : ApartB v1 v3
  d23 : ApartB v2 v3
theorem Own3.up {w w' : World} {base : Nat} {v1 v2 v3 : Value} {x1 x2 x3 : List Int} (h : Own3 w base v1 v2 v3 x1 x2 x3) (g : Up w w') : Own3 w' base v1 v2 v3 x1 x2 x3 := ⟨h.o1.up g, h.o2.up g, h.o3.up g, h.d12, h.d13, h.d23⟩
theorem OwnI.lower {w : World} {base b2 : Nat} {v : Value} {xs : List Int} (h : OwnI w base v xs) (hb : b2 ≤ base) : OwnI w b2 v xs := by
  obtain ⟨⟨h1, h2⟩, h3⟩ := h
  refine ⟨⟨h1, ?_⟩, h3⟩
  rcases h2 with h2 | ⟨g, cap, cur, rfl, hg, r⟩
  · exact .inl h2
  · exact .inr ⟨g, cap, cur, rfl, Nat.le_trans hb hg, r⟩
end Go.Proofs.YtgdcffbakjfacaaDoor
namespace Go.Proofs.YtgdcffbakjfacaaDoor
open Go.ChangeShapes Go.WideShapes Go.ChangeAt Go.RowKit
theorem results_tmp4 {fn : Func} {t u v x : Tmp} (h : fn.results = #[.tmp t, .tmp u, .tmp v, .tmp x]) (tmps : Array Value) (P : Program) (w : World) :
    (results fn tmps).run P w = .ok (.tuple #[tmps.getD t undef, tmps.getD u undef, tmps.getD v undef, tmps.getD x undef]) w := by
  simp [results, h]
theorem ret_ttti {v1 v2 v3 : Value} {a b : Int} (h : a = b) : Ending.returned (.tuple #[v1, v2, v3, .int .i64 a]) = .returned (.tuple #[v1, v2, v3, .int .i64 b]) := by rw [h]
def trOut (r : RowM) : List Tr := if rowCodeM r.d r.c r.xs = 0 then trL 0 0 r.xs else []
theorem trOut_bd (r : RowM) : (trOut r).length ≤ 1000 := by
  unfold trOut
  split
  · rename_i h
    have := (LaidRow.tr (laid_of h)).len
    omega
  · simp
theorem trOut_cnt (r : RowM) : cntInts (ownsL (trOut r)) ≤ 1000 ∧ cntInts (togL (trOut r)) ≤ 1000 ∧ cntInts (movL (trOut r)) ≤ 1000 := by
  have := trOut_bd r
  simp [cntInts, ownsL, togL, movL, this]
def Apart3 (S1 S2 S3 : Nat → Prop) : Prop := (∀ b, S1 b → ¬ S2 b) ∧ (∀ b, S1 b → ¬ S3 b) ∧ (∀ b, S2 b → ¬ S3 b)
/-- three slices, read apart, and a code -/
def Tri (w w' : World) (e : Ending) (v1 v2 v3 : Value) (S1 S2 S3 : Nat → Prop) (x1 x2 x3 : List Int) (c : Int) : Prop :=
  e = .returned (.tuple #[v1, v2, v3, .int .i64 c]) ∧ Ints w' S1 v1 x1 ∧ Ints w' S2 v2 x2 ∧ Ints w' S3 v3 x3 ∧ Apart3 S1 S2 S3 ∧ (∀ b, S1 b ∨ S2 b ∨ S3 b → New w.heap.size w'.heap.size b) ∧ Up w w'
theorem Tri.nil {w w' : World} {c c' : Int} (h : c' = c) (g : Up w w') : Tri w w' (.returned (.tuple #[.slice none 0 0, .slice none 0 0, .slice none 0 0, .int .i64 c'])) (.slice none 0 0) (.slice none 0 0) (.slice none 0 0) (fun _ => False) (fun _ => False) (fun _ => False) [] [] [] c :=
  ⟨by rw [h], Ints.nil _ _ _ _ (by omega), Ints.nil _ _ _ _ (by omega), Ints.nil _ _ _ _ (by omega), ⟨fun _ h => h.elim, fun _ h => h.elim, fun _ h => h.elim⟩, fun _ h => by rcases h with h | h | h <;> exact h.elim, g⟩
theorem Tri.own {w w' : World} {base : Nat} {v1 v2 v3 : Value} {x1 x2 x3 : List Int} {c c' : Int} (h : Own3 w' base v1 v2 v3 x1 x2 x3) (hc : c' = c) (hb : w.heap.size ≤ base) (g : Up w w') :
    Tri w w' (.returned (.tuple #[v1, v2, v3, .int .i64 c'])) v1 v2 v3 (fun b => v1.ownBlock = some b ∧ base ≤ b ∧ b < w'.heap.size) (fun b => v2.ownBlock = some b ∧ base ≤ b ∧ b < w'.heap.size) (fun b => v3.ownBlock = some b ∧ base ≤ b ∧ b < w'.heap.size) x1 x2 x3 c :=
  ⟨by rw [hc], h.o1.rd, h.o2.rd, h.o3.rd, ⟨fun b h1 h2 => h.d12 b h1.1 h2.1, fun b h1 h2 => h.d13 b h1.1 h2.1, fun b h1 h2 => h.d23 b h1.1 h2.1⟩,
   fun b hh => by rcases hh with hh | hh | hh <;> exact ⟨Nat.le_trans hb hh.2.1, hh.2.2⟩, g⟩
end Go.Proofs.YtgdcffbakjfacaaDoor
namespace Go.Proofs.YtgdcffbakjfacaaDoor
open Go.ChangeShapes Go.WideShapes Go.ChangeAt Go.RowKit
def ordM (d : Int) (n : Nat) : List Int := if d = 1 then countM 0 n else (countM 0 n).reverse
theorem ordM_length (d : Int) (n : Nat) : (ordM d n).length = n := by unfold ordM; split <;> simp [countM]
theorem ordM_get (d : Int) (n : Nat) (t : Nat) (h : t < (ordM d n).length) : (ordM d n)[t] = if d = 1 then (t : Int) else (n : Int) - 1 - t := by
  have hl := ordM_length d n
  unfold ordM at *
  split
  · simp [countM]
  · rename_i hd
    simp only [if_neg hd] at h
    simp [countM] at h ⊢
    omega
/-- the first j of them -/
def ordTo (d : Int) (n j : Nat) : List Int := (List.range j).map fun i : Nat => if d = 1 then (i : Int) else (n : Int) - 1 - i
theorem ordTo_succ (d : Int) (n j : Nat) : ordTo d n (j + 1) = ordTo d n j ++ [if d = 1 then (j : Int) else (n : Int) - 1 - j] := by simp [ordTo, List.range_succ]
theorem ordTo_all (d : Int) (n : Nat) : ordTo d n n = ordM d n := by
  refine List.ext_getElem (by simp [ordTo, ordM_length]) fun i h1 h2 => ?_
  rw [ordM_get]
  simp [ordTo]
theorem ordTo_len (d : Int) (n j : Nat) : (ordTo d n j).length = j := by simp [ordTo]
theorem info22 : (Tryd.prog.info? 2).map (fun i => (i.zero, i.size, i.bytes)) = some (some (.int .i64 0), 1, 8) := by kernel_rfl
set_option maxHeartbeats 2000000 in
theorem identity_any (w : World) (n : Nat) (hn : n ≤ 1000) :
    Calls Tryd.prog 86 #[.int .i64 n] w fun e w' => ∃ u, e = .returned u ∧ Ints w' (New w.heap.size w'.heap.size) u (countM 0 n) ∧ Up w w' := by
  obtain ⟨i0, hi, hz0, hz1, hz2⟩ := info_parts info22
  have hmk : ∀ u : World, (Instr.makeSlice 31 (.int .i64 (n : Int)) (.int .i64 (n : Int))).run Tryd.prog u =
      .ok (.slice (some ⟨u.heap.size, 0, none⟩) n n) (u.alloc (.cells (madeCells #[.int .i64 0] n) 2)) := fun u => by
    have h := run_make (P := Tryd.prog) u 31 2 i0 (.int .i64 0) Tryd.underlying31 hi hz0 .i64 .i64 (n : Int) (n : Int) (by omega) (Int.le_refl _) (by rw [hz2]; omega) (by omega)
    simpa [hz1, Value.cells] using h
  go_enter Tryd.func86, Tryd.ntmps86
  go_wp2
  have Hi := Lib.hid hmk
  clear hmk hi hz0 hz1 hz2
  go_loopw [4, 9] (fun _ i wr => ∃ j : Nat, j ≤ n ∧ i = .int .i64 j ∧ Hid (Up w wr) ∧ w.heap.size < wr.heap.size ∧
      Hid (∀ t (_ : t < n), wr.cell? ⟨w.heap.size, t, none⟩ = some (.int .i64 (if t < j then (t : Int) else 0)) ∧ wr.frozen? ⟨w.heap.size, t, none⟩ = false)) (fun _ i _ => n - (intOf i).toNat)
  case atStart => exact ⟨0, by omega, rfl, (Chg.refl _ _).alloc _, by simp, fun t ht => ⟨by rw [cell_new, madeInts_get _ _ ht]; simp, frozen_new _ _ _ _⟩⟩
  case round =>
    obtain ⟨j, hj, rfl, hg, hsz, hcs⟩ := hrel
    by_cases hlt : j < n
    · have hdj := (hcs.out j hlt).1
      have hfj := (hcs.out j hlt).2
      rw [if_neg (by omega)] at hdj
      go_wp2
      go_roundw
      case rel =>
        refine ⟨j + 1, by omega, by go_num, Chg.setCell hg.out (.inr (Nat.le_refl _)) _, by simpa [World.setCell] using hsz, fun t ht => ?_⟩
        obtain ⟨h1, h2⟩ := hcs.out t ht
        by_cases e : t = j
        · subst e
          rw [if_pos (by omega)]
          exact ⟨World.cell?_setCell_same _ _ _ hdj, by simpa using hfj⟩
        · rw [World.cell?_setCell_other _ _ _ _ (fun h => e (by injection h with _ h _; exact h.symm))]
          refine ⟨?_, by simpa using h2⟩
          rw [h1]
          by_cases ht2 : t < j
          · rw [if_pos ht2, if_pos (by omega)]
          · rw [if_neg ht2, if_neg (by omega)]
      case measure => simp [intOf]; omega
    · obtain rfl : j = n := by omega
      go_wp2
      go_ret
      refine ⟨_, rfl, ?_, hg⟩
      have hI := Ints.of_cells (w := wr) (S := New w.heap.size wr.heap.size) (g := w.heap.size) (c := j) (xs := countM 0 j) ⟨Nat.le_refl _, hsz⟩ hsz (by rw [countM_len]; exact Nat.le_refl _) (by omega) (fun x hx => by
        obtain ⟨i, hi, rfl⟩ := List.mem_map.1 hx
        have := List.mem_range.1 hi
        unfold I64; omega) (fun t ht => by
        have ht' : t < j := by rwa [countM_len] at ht
        obtain ⟨h1, h2⟩ := hcs.out t ht'
        rw [if_pos ht'] at h1
        rw [countM_get, Int.zero_add]
        exact ⟨h1, h2⟩)
      rw [countM_len] at hI
      exact hI
set_option maxHeartbeats 2000000 in
theorem order_any (w : World) (S : Nat → Prop) (v : Value) (r : RowM) (h : RowV w S v r) (hd : r.d = 1 ∨ r.d = -1) (hl : r.xs.length ≤ 16) :
    Calls Tryd.prog 75 #[v] w fun e w' => ∃ v', e = .returned v' ∧ Ints w' (New w.heap.size w'.heap.size) v' (ordM r.d r.xs.length) ∧ Up w w' := by
  obtain ⟨A, c, rfl, h4, h5, h6⟩ := openRow h
  have HI := Lib.hid h4
  have U0 := Lib.hid (Chg.refl Nowhere w)
  clear h h4
  rcases hd with hd | hd
  · have HO := Lib.hid (show ordM r.d r.xs.length = countM 0 r.xs.length from if_pos hd)
    have hdd : (r.d == -1) = false := by rw [hd]; rfl
    clear hd
    have U_1 := Lib.hid (Chg.trans U0.out ((Chg.refl Nowhere w).alloc (.cells #[.int .i64 r.d, .int .i64 r.c, .slice A r.xs.length c] 40)))
    clear U0
    have q0_2 := (show (w.alloc (.cells #[.int .i64 r.d, .int .i64 r.c, .slice A r.xs.length c] 40)).cell? ⟨w.heap.size, 0, none⟩ = some (.int .i64 r.d) from cell_new _ _ _ _)
    have q1_3 := (show (w.alloc (.cells #[.int .i64 r.d, .int .i64 r.c, .slice A r.xs.length c] 40)).cell? ⟨w.heap.size, 1, none⟩ = some (.int .i64 r.c) from cell_new _ _ _ _)
    have q2_4 := (show (w.alloc (.cells #[.int .i64 r.d, .int .i64 r.c, .slice A r.xs.length c] 40)).cell? ⟨w.heap.size, 2, none⟩ = some (.slice A r.xs.length c) from cell_new _ _ _ _)
    have hbx5 : w.heap.size < (w.alloc (.cells #[.int .i64 r.d, .int .i64 r.c, .slice A r.xs.length c] 40)).heap.size := by simp
    have hw1 := U_1.out.size
    go_enter Tryd.func75, Tryd.ntmps75
    go_wp2_with fail
    refine (identity_any _ r.xs.length (by omega)).mono ?_
    rintro e w6 ⟨v6, rfl, k1, g1⟩
    obtain ⟨A6, c6, rfl, hl6, hc6, -⟩ := k1.shape
    have K1 := Lib.hid k1
    clear k1
    have G1 := Lib.hid g1
    have hz6 := G1.out.size
    clear g1
    have U_7 := Lib.hid (Chg.trans U_1.out (Chg.trans (by repeat (first | exact Chg.refl _ _ | apply Chg.drew | apply Chg.drewN | refine Chg.alloc ?_ _)) G1.out))
    clear U_1
    have q0_8 := Chg.cell (Chg.trans (by repeat (first | exact Chg.refl _ _ | apply Chg.drew | apply Chg.drewN | refine Chg.alloc ?_ _)) G1.out) q0_2 id
    clear q0_2
    have q1_9 := Chg.cell (Chg.trans (by repeat (first | exact Chg.refl _ _ | apply Chg.drew | apply Chg.drewN | refine Chg.alloc ?_ _)) G1.out) q1_3 id
    clear q1_3
    have q2_10 := Chg.cell (Chg.trans (by repeat (first | exact Chg.refl _ _ | apply Chg.drew | apply Chg.drewN | refine Chg.alloc ?_ _)) G1.out) q2_4 id
    clear q2_4
    clear G1
    have K_11 := Lib.hid (K1.out)
    clear K1
    go_wp2
    go_ret
    exact ⟨_, rfl, by rw [HO.out]; exact K_11.out.mono (fun b _ hb => ⟨by have := hb.1; simp at *; omega, hb.2⟩), (Chg.trans U_7.out (by repeat (first | exact Chg.refl _ _ | apply Chg.drew | apply Chg.drewN | refine Chg.alloc ?_ _)))⟩
  · have HO := Lib.hid (show ordM r.d r.xs.length = (countM 0 r.xs.length).reverse from if_neg (by omega))
    have hdd : (r.d == -1) = true := by rw [hd]; rfl
    clear hd
    have U_12 := Lib.hid (Chg.trans U0.out ((Chg.refl Nowhere w).alloc (.cells #[.int .i64 r.d, .int .i64 r.c, .slice A r.xs.length c] 40)))
    clear U0
    have q0_13 := (show (w.alloc (.cells #[.int .i64 r.d, .int .i64 r.c, .slice A r.xs.length c] 40)).cell? ⟨w.heap.size, 0, none⟩ = some (.int .i64 r.d) from cell_new _ _ _ _)
    have q1_14 := (show (w.alloc (.cells #[.int .i64 r.d, .int .i64 r.c, .slice A r.xs.length c] 40)).cell? ⟨w.heap.size, 1, none⟩ = some (.int .i64 r.c) from cell_new _ _ _ _)
    have q2_15 := (show (w.alloc (.cells #[.int .i64 r.d, .int .i64 r.c, .slice A r.xs.length c] 40)).cell? ⟨w.heap.size, 2, none⟩ = some (.slice A r.xs.length c) from cell_new _ _ _ _)
    have hbx16 : w.heap.size < (w.alloc (.cells #[.int .i64 r.d, .int .i64 r.c, .slice A r.xs.length c] 40)).heap.size := by simp
    have hw1 := U_12.out.size
    go_enter Tryd.func75, Tryd.ntmps75
    go_wp2_with fail
    refine (identity_any _ r.xs.length (by omega)).mono ?_
    rintro e w17 ⟨v17, rfl, k1, g1⟩
    obtain ⟨A17, c17, rfl, hl17, hc17, -⟩ := k1.shape
    have K1 := Lib.hid k1
    clear k1
    have G1 := Lib.hid g1
    have hz17 := G1.out.size
    clear g1
    have U_18 := Lib.hid (Chg.trans U_12.out (Chg.trans (by repeat (first | exact Chg.refl _ _ | apply Chg.drew | apply Chg.drewN | refine Chg.alloc ?_ _)) G1.out))
    clear U_12
    have q0_19 := Chg.cell (Chg.trans (by repeat (first | exact Chg.refl _ _ | apply Chg.drew | apply Chg.drewN | refine Chg.alloc ?_ _)) G1.out) q0_13 id
    clear q0_13
    have q1_20 := Chg.cell (Chg.trans (by repeat (first | exact Chg.refl _ _ | apply Chg.drew | apply Chg.drewN | refine Chg.alloc ?_ _)) G1.out) q1_14 id
    clear q1_14
    have q2_21 := Chg.cell (Chg.trans (by repeat (first | exact Chg.refl _ _ | apply Chg.drew | apply Chg.drewN | refine Chg.alloc ?_ _)) G1.out) q2_15 id
    clear q2_15
    clear G1
    have K_22 := Lib.hid (K1.out)
    clear K1
    go_wp2_with fail
    refine (reverse_any _ _ _ _ (K_22.out.up (by repeat (first | exact Chg.refl _ _ | apply Chg.drew | apply Chg.drewN | refine Chg.alloc ?_ _)))).mono ?_
    rintro e w9 ⟨rfl, g1, k1⟩
    have G1 := Lib.hid g1
    have K1 := Lib.hid k1
    have hz9 := g1.size
    clear g1 k1
    go_wp2
    go_ret
    exact ⟨_, rfl, by rw [HO.out]; have := K1.out; exact this.mono (fun b _ hb => ⟨by have := hb.1; simp at *; omega, by have := hb.2; omega⟩), Chg.new (Chg.trans U_18.out (by repeat (first | exact Chg.refl _ _ | apply Chg.drew | apply Chg.drewN | refine Chg.alloc ?_ _))) G1.out (fun i hi hx => by have := hx.1; simp at *; omega)⟩
end Go.Proofs.YtgdcffbakjfacaaDoor
