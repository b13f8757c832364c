/- RowTargets on both sides. No condition but room. -/
import Derived.Test.YtnjfhpgmogopnaaRow7
namespace Go.Proofs.Ytnjfhpgmogopnaa
open Go.ChangeShapes Go.WideShapes Go.ChangeAt Go.RowKit
theorem results_tmp4 {fn : Func} {t u v x : Tmp} (h : fn.results = #[.tmp t, .tmp u, .tmp v, .tmp x]) (tmps : Array Value) (P : Program) (w : World) :
    (results fn tmps).run P w = .ok (.tuple #[tmps.getD t undef, tmps.getD u undef, tmps.getD v undef, tmps.getD x undef]) w := by
  simp [results, h]
theorem ret_ttti {v1 v2 v3 : Value} {a b : Int} (h : a = b) : Ending.returned (.tuple #[v1, v2, v3, .int .i64 a]) = .returned (.tuple #[v1, v2, v3, .int .i64 b]) := by rw [h]
def trOut (r : RowM) : List Tr := if rowCodeM r.d r.c r.xs = 0 then trL 0 0 r.xs else []
theorem trOut_bd (r : RowM) : (trOut r).length ≤ 1000 := by
  unfold trOut
  split
  · rename_i h
    have := (LaidRow.tr (laid_of h)).len
    omega
  · simp
theorem trOut_cnt (r : RowM) : cntInts (ownsL (trOut r)) ≤ 1000 ∧ cntInts (togL (trOut r)) ≤ 1000 ∧ cntInts (movL (trOut r)) ≤ 1000 := by
  have := trOut_bd r
  simp [cntInts, ownsL, togL, movL, this]
def Apart3 (S1 S2 S3 : Nat → Prop) : Prop := (∀ b, S1 b → ¬ S2 b) ∧ (∀ b, S1 b → ¬ S3 b) ∧ (∀ b, S2 b → ¬ S3 b)
/-- three slices, read apart, and a code -/
def Tri (w w' : World) (e : Ending) (v1 v2 v3 : Value) (S1 S2 S3 : Nat → Prop) (x1 x2 x3 : List Int) (c : Int) : Prop :=
  e = .returned (.tuple #[v1, v2, v3, .int .i64 c]) ∧ Ints w' S1 v1 x1 ∧ Ints w' S2 v2 x2 ∧ Ints w' S3 v3 x3 ∧ Apart3 S1 S2 S3 ∧ (∀ b, S1 b ∨ S2 b ∨ S3 b → New w.heap.size w'.heap.size b) ∧ Up w w'
theorem Tri.nil {w w' : World} {c c' : Int} (h : c' = c) (g : Up w w') : Tri w w' (.returned (.tuple #[.slice none 0 0, .slice none 0 0, .slice none 0 0, .int .i64 c'])) (.slice none 0 0) (.slice none 0 0) (.slice none 0 0) (fun _ => False) (fun _ => False) (fun _ => False) [] [] [] c :=
  ⟨by rw [h], Ints.nil _ _ _ _ (by omega), Ints.nil _ _ _ _ (by omega), Ints.nil _ _ _ _ (by omega), ⟨fun _ h => h.elim, fun _ h => h.elim, fun _ h => h.elim⟩, fun _ h => by rcases h with h | h | h <;> exact h.elim, g⟩
theorem Tri.own {w w' : World} {base : Nat} {v1 v2 v3 : Value} {x1 x2 x3 : List Int} {c c' : Int} (h : Own3 w' base v1 v2 v3 x1 x2 x3) (hc : c' = c) (hb : w.heap.size ≤ base) (g : Up w w') :
    Tri w w' (.returned (.tuple #[v1, v2, v3, .int .i64 c'])) v1 v2 v3 (fun b => v1.ownBlock = some b ∧ base ≤ b ∧ b < w'.heap.size) (fun b => v2.ownBlock = some b ∧ base ≤ b ∧ b < w'.heap.size) (fun b => v3.ownBlock = some b ∧ base ≤ b ∧ b < w'.heap.size) x1 x2 x3 c :=
  ⟨by rw [hc], h.o1.rd, h.o2.rd, h.o3.rd, ⟨fun b h1 h2 => h.d12 b h1.1 h2.1, fun b h1 h2 => h.d13 b h1.1 h2.1, fun b h1 h2 => h.d23 b h1.1 h2.1⟩,
   fun b hh => by rcases hh with hh | hh | hh <;> exact ⟨Nat.le_trans hb hh.2.1, hh.2.2⟩, g⟩
set_option maxHeartbeats 4000000 in
theorem RowTargets_any (w : World) (S : Nat → Prop) (v : Value) (r : RowM) (h : RowV w S v r) :
    Calls Try.prog 50 #[v] w fun e w' => ∃ v1 v2 v3 S1 S2 S3, Tri w w' e v1 v2 v3 S1 S2 S3 (ownsL (trOut r)) (togL (trOut r)) (movL (trOut r)) (rowCodeM r.d r.c r.xs) := by
  have hii : I64 r.d ∧ I64 r.c := by obtain ⟨_, _, _, h1, h2⟩ := h; exact ⟨h1, h2⟩
  obtain ⟨A, c, rfl, h4, h5, h6⟩ := openRow h
  have U0 := Lib.hid (Chg.refl Nowhere w)
  have HI := Lib.hid h
  have HI4 := Lib.hid h4
  have HII := Lib.hid hii
  clear h4 h hii
  by_cases hz : rowCodeM r.d r.c r.xs = 0
  rotate_left
  · have HO := Lib.hid (show trOut r = [] from if_neg hz)
    have hz2 : (rowCodeM r.d r.c r.xs != 0) = true := by simpa using hz
    clear hz
    have U_1 := Lib.hid (Chg.trans U0.out ((Chg.refl Nowhere w).alloc (.cells #[.int .i64 r.d, .int .i64 r.c, .slice A r.xs.length c] 87)))
    clear U0
    have I_2 := Lib.hid (HI.out.up ((Chg.refl Nowhere w).alloc (.cells #[.int .i64 r.d, .int .i64 r.c, .slice A r.xs.length c] 87)))
    clear HI
    have q0_3 := (show (w.alloc (.cells #[.int .i64 r.d, .int .i64 r.c, .slice A r.xs.length c] 87)).cell? ⟨w.heap.size, 0, none⟩ = some (.int .i64 r.d) from cell_new _ _ _ _)
    have q1_4 := (show (w.alloc (.cells #[.int .i64 r.d, .int .i64 r.c, .slice A r.xs.length c] 87)).cell? ⟨w.heap.size, 1, none⟩ = some (.int .i64 r.c) from cell_new _ _ _ _)
    have q2_5 := (show (w.alloc (.cells #[.int .i64 r.d, .int .i64 r.c, .slice A r.xs.length c] 87)).cell? ⟨w.heap.size, 2, none⟩ = some (.slice A r.xs.length c) from cell_new _ _ _ _)
    have hbx6 : w.heap.size < (w.alloc (.cells #[.int .i64 r.d, .int .i64 r.c, .slice A r.xs.length c] 87)).heap.size := by simp
    go_enter Try.func50, Try.ntmps50
    go_wp2_with fail
    refine (rowCode_any _ S _ r (I_2.out.up (by repeat (first | exact Chg.refl _ _ | apply Chg.drew | apply Chg.drewN | refine Chg.alloc ?_ _)))).mono ?_
    rintro e w7 ⟨rfl, g1⟩
    have G1 := Lib.hid g1
    have hz7 := G1.out.size
    clear g1
    have U_8 := Lib.hid (Chg.trans U_1.out (Chg.trans (by repeat (first | exact Chg.refl _ _ | apply Chg.drew | apply Chg.drewN | refine Chg.alloc ?_ _)) G1.out))
    clear U_1
    have I_9 := Lib.hid (I_2.out.up (Chg.trans (by repeat (first | exact Chg.refl _ _ | apply Chg.drew | apply Chg.drewN | refine Chg.alloc ?_ _)) G1.out))
    clear I_2
    have q0_10 := Chg.cell (Chg.trans (by repeat (first | exact Chg.refl _ _ | apply Chg.drew | apply Chg.drewN | refine Chg.alloc ?_ _)) G1.out) q0_3 id
    clear q0_3
    have q1_11 := Chg.cell (Chg.trans (by repeat (first | exact Chg.refl _ _ | apply Chg.drew | apply Chg.drewN | refine Chg.alloc ?_ _)) G1.out) q1_4 id
    clear q1_4
    have q2_12 := Chg.cell (Chg.trans (by repeat (first | exact Chg.refl _ _ | apply Chg.drew | apply Chg.drewN | refine Chg.alloc ?_ _)) G1.out) q2_5 id
    clear q2_5
    clear G1
    go_wp2
    (try simp only [Exit.inBlock, Exit.then])
    refine bodyPost_ret (results_tmp4 rfl _ _ _) rfl ?_
    rw [HO.out]
    exact ⟨_, _, _, _, _, _, Tri.nil rfl (Chg.trans U_8.out (by repeat (first | exact Chg.refl _ _ | apply Chg.drew | apply Chg.drewN | refine Chg.alloc ?_ _)))⟩
  have HO := Lib.hid (show trOut r = trL 0 0 r.xs from if_pos hz)
  have HS := Lib.hid (laid_st_results hz)
  have HZ := Lib.hid hz
  clear hz
  have U_13 := Lib.hid (Chg.trans U0.out ((Chg.refl Nowhere w).alloc (.cells #[.int .i64 r.d, .int .i64 r.c, .slice A r.xs.length c] 87)))
  clear U0
  have I_14 := Lib.hid (HI.out.up ((Chg.refl Nowhere w).alloc (.cells #[.int .i64 r.d, .int .i64 r.c, .slice A r.xs.length c] 87)))
  clear HI
  have q0_15 := (show (w.alloc (.cells #[.int .i64 r.d, .int .i64 r.c, .slice A r.xs.length c] 87)).cell? ⟨w.heap.size, 0, none⟩ = some (.int .i64 r.d) from cell_new _ _ _ _)
  have q1_16 := (show (w.alloc (.cells #[.int .i64 r.d, .int .i64 r.c, .slice A r.xs.length c] 87)).cell? ⟨w.heap.size, 1, none⟩ = some (.int .i64 r.c) from cell_new _ _ _ _)
  have q2_17 := (show (w.alloc (.cells #[.int .i64 r.d, .int .i64 r.c, .slice A r.xs.length c] 87)).cell? ⟨w.heap.size, 2, none⟩ = some (.slice A r.xs.length c) from cell_new _ _ _ _)
  have hbx18 : w.heap.size < (w.alloc (.cells #[.int .i64 r.d, .int .i64 r.c, .slice A r.xs.length c] 87)).heap.size := by simp
  go_enter Try.func50, Try.ntmps50
  go_wp2_with fail
  refine (rowCode_any _ S _ r (I_14.out.up (by repeat (first | exact Chg.refl _ _ | apply Chg.drew | apply Chg.drewN | refine Chg.alloc ?_ _)))).mono ?_
  rintro e w19 ⟨rfl, g1⟩
  have G1 := Lib.hid g1
  have hz19 := G1.out.size
  clear g1
  have U_20 := Lib.hid (Chg.trans U_13.out (Chg.trans (by repeat (first | exact Chg.refl _ _ | apply Chg.drew | apply Chg.drewN | refine Chg.alloc ?_ _)) G1.out))
  clear U_13
  have I_21 := Lib.hid (I_14.out.up (Chg.trans (by repeat (first | exact Chg.refl _ _ | apply Chg.drew | apply Chg.drewN | refine Chg.alloc ?_ _)) G1.out))
  clear I_14
  have q0_22 := Chg.cell (Chg.trans (by repeat (first | exact Chg.refl _ _ | apply Chg.drew | apply Chg.drewN | refine Chg.alloc ?_ _)) G1.out) q0_15 id
  clear q0_15
  have q1_23 := Chg.cell (Chg.trans (by repeat (first | exact Chg.refl _ _ | apply Chg.drew | apply Chg.drewN | refine Chg.alloc ?_ _)) G1.out) q1_16 id
  clear q1_16
  have q2_24 := Chg.cell (Chg.trans (by repeat (first | exact Chg.refl _ _ | apply Chg.drew | apply Chg.drewN | refine Chg.alloc ?_ _)) G1.out) q2_17 id
  clear q2_17
  clear G1
  rw [HZ.out]
  go_wp2_with fail
  refine (targets_any _ S _ r (I_21.out.up (by repeat (first | exact Chg.refl _ _ | apply Chg.drew | apply Chg.drewN | refine Chg.alloc ?_ _))) HS.out).mono ?_
  rintro e w25 ⟨v1, v2, v3, rfl, hO, g1⟩
  have hy0 := up_pre (Chg.trans U_20.out (by repeat (first | exact Chg.refl _ _ | apply Chg.drew | apply Chg.drewN | refine Chg.alloc ?_ _))) g1
  have HO3 := Lib.hid hO
  have G1 := Lib.hid g1
  clear hO g1
  have U_26 := Lib.hid (Chg.trans U_20.out (Chg.trans (by repeat (first | exact Chg.refl _ _ | apply Chg.drew | apply Chg.drewN | refine Chg.alloc ?_ _)) G1.out))
  clear U_20
  have I_27 := Lib.hid (I_21.out.up (Chg.trans (by repeat (first | exact Chg.refl _ _ | apply Chg.drew | apply Chg.drewN | refine Chg.alloc ?_ _)) G1.out))
  clear I_21
  have q0_28 := Chg.cell (Chg.trans (by repeat (first | exact Chg.refl _ _ | apply Chg.drew | apply Chg.drewN | refine Chg.alloc ?_ _)) G1.out) q0_22 id
  clear q0_22
  have q1_29 := Chg.cell (Chg.trans (by repeat (first | exact Chg.refl _ _ | apply Chg.drew | apply Chg.drewN | refine Chg.alloc ?_ _)) G1.out) q1_23 id
  clear q1_23
  have q2_30 := Chg.cell (Chg.trans (by repeat (first | exact Chg.refl _ _ | apply Chg.drew | apply Chg.drewN | refine Chg.alloc ?_ _)) G1.out) q2_24 id
  clear q2_24
  clear G1
  go_wp2
  (try simp only [Exit.inBlock, Exit.then])
  refine bodyPost_ret (results_tmp4 rfl _ _ _) rfl ?_
  rw [HO.out]
  exact ⟨_, _, _, _, _, _, Tri.own HO3.out HZ.out.symm hy0.1 (Chg.trans U_26.out (by repeat (first | exact Chg.refl _ _ | apply Chg.drew | apply Chg.drewN | refine Chg.alloc ?_ _)))⟩
end Go.Proofs.Ytnjfhpgmogopnaa
