/- CatchFloats on both sides. No condition. -/
import Derived.Test.YtchfjglofmphfaaColI
import Derived.Test.YtchfjglofmphfaaPD18
import Derived.Test.YtchfjglofmphfaaPD14
import Derived.Test.YtchfjglofmphfaaColR
set_option linter.unusedSimpArgs false
set_option linter.unusedVariables false
set_option maxRecDepth 100000
set_option maxHeartbeats 4000000
namespace Go.Proofs.Ytchfjglofmphfaa
open Go.ChangeShapes Go.WideShapes Go.ChangeAt Go.RowKit
theorem ChartX.mono {w : World} {S T : Nat → Prop} {v : Value} {c : ChartM} (h : ChartX w S v c) (hs : ∀ b, b < w.heap.size → S b → T b) : ChartX w T v c := let ⟨s, h1, h2, h3⟩ := h; ⟨s, h1, h2.mono hs, h3⟩
theorem rowsX_nil (w : World) (S : Nat → Prop) : RowsX w S (.slice none 0 0) [] := ⟨none, 0, fun _ _ => False, rfl, by simp, by omega, fun _ => rfl, fun _ _ _ h => h.elim, fun h => by simp at h⟩
theorem chartX_nil (w : World) (S : Nat → Prop) : ChartX w S (.agg #[.int .i64 0, .slice none 0 0]) ⟨0, []⟩ := ⟨_, rfl, rowsX_nil w S, show I64 0 by unfold I64; omega⟩
theorem catch_no {c : ColM} {m : Int} (h : okCol c = false) : catchK c m = 1 ∧ catchL c m = ⟨0, []⟩ := by unfold catchK catchL; simp [h]
theorem catch_rng {c : ColM} {m : Int} (h : okCol c = true) (h2 : inB m 1 8 = false) : catchK c m = 2 ∧ catchL c m = ⟨0, []⟩ := by unfold catchK catchL; simp [h, h2]
theorem catch_yes {c : ColM} {m : Int} (h : okCol c = true) (h2 : inB m 1 8 = true) : catchK c m = (if chartB (chartC c m) then 0 else 5) ∧ catchL c m = (if chartB (chartC c m) then chartC c m else ⟨0, []⟩) := by
  unfold catchK catchL
  refine ⟨?_, ?_⟩ <;> simp [h, h2]
theorem okCol_sz {c : ColM} (h : okCol c = true) : c.rs.length ≤ 8 ∧ ∀ i (hi : i < c.rs.length), c.rs[i].length ≤ 8 := by
  unfold okCol at h
  simp only [Bool.and_eq_true, inB, decide_eq_true_eq, List.all_eq_true] at h
  obtain ⟨⟨h1, h2⟩, h3⟩ := h
  refine ⟨by omega, fun i hi => ?_⟩
  have := h3 _ (List.getElem_mem hi)
  unfold okLine at this
  simp only [Bool.and_eq_true, decide_eq_true_eq] at this
  omega
theorem colRow_rs_le {most : Int} {row : List Int} {s : ColS} {L : Nat} (hl : row.length ≤ L) (h : ∀ r ∈ s.rs, r.xs.length ≤ L) : ∀ k, ∀ r ∈ (colRow most row s k).rs, r.xs.length ≤ L
  | 0 => h
  | k + 1 => by
    intro r hr
    unfold colRow colK at hr
    split at hr
    · rcases List.mem_append.1 hr with hr | hr
      · exact colRow_rs_le hl h k r hr
      · obtain rfl : r = _ := by simpa using hr
        rw [stitM_length]
        exact hl
    · exact colRow_rs_le hl h k r hr
theorem colTo_rs_le {most : Int} {rows : List (List Int)} {L : Nat} (hl : ∀ i, (colAt rows i).length ≤ L) : ∀ i, ∀ r ∈ (colTo most rows i).rs, r.xs.length ≤ L
  | 0 => fun r hr => by simp [colTo] at hr
  | i + 1 => colRow_rs_le (hl i) (colTo_rs_le hl i) 4
theorem cntR_bd {rs : List RowM} {L : Nat} (h : ∀ r ∈ rs, r.xs.length ≤ L) : ∀ j, j ≤ rs.length → cntR rs j ≤ L * j
  | 0, _ => by simp [cntR]
  | j + 1, hj => by
    have h1 := cntR_bd h j (by omega)
    have h2 := h _ (List.getElem_mem (show j < rs.length by omega))
    rw [cntR_succ (by omega), Nat.mul_add]
    omega
theorem catchL_cnt (a0 : ColM) (a1 : Int) : cntChart (catchL a0 a1) ≤ 9000000 := by
  unfold catchL
  split
  · rename_i h
    simp only [Bool.and_eq_true] at h
    obtain ⟨h1, h2⟩ := okCol_sz h.1.1
    have h3 := (colTo_ok a1 a0.rs a0.rs.length).2.2
    have h4 := cntR_bd (rs := (chartC a0 a1).rs) (L := 8) (colTo_rs_le (fun i => by
      by_cases hi : i < a0.rs.length
      · rw [colAt_eq hi]; exact h2 i hi
      · unfold colAt; rw [List.getD_eq_getElem?_getD, List.getElem?_eq_none (by omega)]; simp) _) _ (Nat.le_refl _)
    have h5 : (chartC a0 a1).rs.length ≤ 4 * a0.rs.length := h3
    unfold cntChart cntC cntM
    omega
  · simp [cntChart, cntC, cntM, cntR]
theorem ifChart_any (w : World) (S : Nat → Prop) (v : Value) (c : ChartM) (h : ChartX w S v c) (hS : ∀ b, S b → b < w.heap.size) :
    Calls Try.prog 70 #[v] w fun e w' => ∃ (A : Option Addr) (k : Nat) (r : ChartM) (kc : Int), Hid (kc = (if chartB c then 0 else 5)) ∧ Hid (r = (if chartB c then c else ⟨0, []⟩)) ∧ e = .returned (.tuple #[.agg #[.int .i64 r.n, .slice A r.rs.length k], .int .i64 kc]) ∧ ChartX w' S (.agg #[.int .i64 r.n, .slice A r.rs.length k]) r ∧ Up w w' := by
  have H := Lib.hid h
  have HS := Lib.hid hS
  obtain ⟨A, k, rfl, -, -, -⟩ := openChartX h
  clear h hS
  have WB := Lib.hid (show Up w ((w.alloc (.cells #[.int .i64 c.n, .slice A c.rs.length k] 47)).alloc (.cells #[.int .i64 0, .slice none 0 0] 47)) from ((Chg.refl Nowhere w).alloc _).alloc _)
  go_enter Try.func70, Try.ntmps70
  go_wp2_with fail
  refine (ValidChart_any _ S _ c ((H.out.up (by repeat (first | exact Chg.refl _ _ | apply Chg.drew | apply Chg.drewN | refine Chg.alloc ?_ _))).cv)).mono ?_
  rintro e w1 ⟨rfl, g1⟩
  have G1 := Lib.hid (show Up w w1 from Chg.trans WB.out g1)
  obtain ⟨p0, r0⟩ := CellF.up g1 (show CellF ((w.alloc (.cells #[.int .i64 c.n, .slice A c.rs.length k] 47)).alloc (.cells #[.int .i64 0, .slice none 0 0] 47)) ⟨w.heap.size, 0, none⟩ (.int .i64 c.n) from (by repeat (first | ((refine cellF_at ?_ rfl); (simp; done)) | refine CellF.up ((Chg.refl _ _).alloc _) ?_)))
  obtain ⟨p1, r1⟩ := CellF.up g1 (show CellF ((w.alloc (.cells #[.int .i64 c.n, .slice A c.rs.length k] 47)).alloc (.cells #[.int .i64 0, .slice none 0 0] 47)) ⟨w.heap.size, 1, none⟩ (.slice A c.rs.length k) from (by repeat (first | ((refine cellF_at ?_ rfl); (simp; done)) | refine CellF.up ((Chg.refl _ _).alloc _) ?_)))
  obtain ⟨x0, f0⟩ := CellF.up g1 (show CellF ((w.alloc (.cells #[.int .i64 c.n, .slice A c.rs.length k] 47)).alloc (.cells #[.int .i64 0, .slice none 0 0] 47)) ⟨w.heap.size + 1, 0, none⟩ (.int .i64 0) from (by repeat (first | ((refine cellF_at ?_ rfl); (simp; done)) | refine CellF.up ((Chg.refl _ _).alloc _) ?_)))
  obtain ⟨x1, f1⟩ := CellF.up g1 (show CellF ((w.alloc (.cells #[.int .i64 c.n, .slice A c.rs.length k] 47)).alloc (.cells #[.int .i64 0, .slice none 0 0] 47)) ⟨w.heap.size + 1, 1, none⟩ (.slice none 0 0) from (by repeat (first | ((refine cellF_at ?_ rfl); (simp; done)) | refine CellF.up ((Chg.refl _ _).alloc _) ?_)))
  clear g1
  by_cases hb : chartB c = true
  rotate_left
  · have hbb : chartB c = false := by simpa using hb
    have CK := Lib.hid (show (⟨0, []⟩ : ChartM) = (if chartB c then c else ⟨0, []⟩) ∧ (5 : Int) = (if chartB c then 0 else 5) from ⟨by simp [hbb], by simp [hbb]⟩)
    have CZ := Lib.hid (show Chg (fun b => b = (w.heap.size + 1)) w1 ((w1.setCell ⟨(w.heap.size + 1), 0, none⟩ (.int .i64 0)).setCell ⟨(w.heap.size + 1), 1, none⟩ (.slice none 0 0)) from Chg.setCell (Chg.setCell (Chg.refl (fun b => b = (w.heap.size + 1)) w1) (p := ⟨(w.heap.size + 1), 0, none⟩) (.inl (show (w.heap.size + 1) = (w.heap.size + 1) from rfl)) _) (p := ⟨(w.heap.size + 1), 1, none⟩) (.inl (show (w.heap.size + 1) = (w.heap.size + 1) from rfl)) _)
    go_wp2_with fail
    refine bodyPost_ret (v := .tuple #[.agg #[.int .i64 0, .slice none 0 0], .int .i64 5]) (by simp [results, Try.results70, go_sem, x0, x1]) rfl ?_
    exact ⟨none, 0, ⟨0, []⟩, 5, by first | exact Lib.hid CK.out.2 | exact Lib.hid rfl, by first | exact Lib.hid CK.out.1 | exact Lib.hid rfl, rfl, chartX_nil _ _, Chg.new G1.out CZ.out (fun i hi e => by have e : i = w.heap.size + 1 := e; omega)⟩
  have CK := Lib.hid (show c = (if chartB c then c else ⟨0, []⟩) ∧ (0 : Int) = (if chartB c then 0 else 5) from ⟨by simp [hb], by simp [hb]⟩)
  have CZ := Lib.hid (show Chg (fun b => b = (w.heap.size + 1)) w1 ((w1.setCell ⟨(w.heap.size + 1), 0, none⟩ (.int .i64 c.n)).setCell ⟨(w.heap.size + 1), 1, none⟩ (.slice A c.rs.length k)) from Chg.setCell (Chg.setCell (Chg.refl (fun b => b = (w.heap.size + 1)) w1) (p := ⟨(w.heap.size + 1), 0, none⟩) (.inl (show (w.heap.size + 1) = (w.heap.size + 1) from rfl)) _) (p := ⟨(w.heap.size + 1), 1, none⟩) (.inl (show (w.heap.size + 1) = (w.heap.size + 1) from rfl)) _)
  go_wp2_with fail
  refine bodyPost_ret (v := .tuple #[.agg #[.int .i64 c.n, .slice A c.rs.length k], .int .i64 0]) (by simp [results, Try.results70, go_sem, x0, x1]) rfl ?_
  exact ⟨A, k, c, 0, by first | exact Lib.hid CK.out.2 | exact Lib.hid rfl, by first | exact Lib.hid CK.out.1 | exact Lib.hid rfl, rfl, (H.out.up G1.out).keep CZ.out (fun b _ hs e => by have := HS.out b hs; have e : b = w.heap.size + 1 := e; omega), Chg.new G1.out CZ.out (fun i hi e => by have e : i = w.heap.size + 1 := e; omega)⟩
theorem pCatchFloats_A (w : World) (S : Nat → Prop) (v : Value) (a0 : ColM) (h : ColA w S v a0) (a1 : Int) :
    Calls Try.prog 19 #[v, .int .i64 a1] w fun e w' => ∃ u, e = .returned (.tuple #[u, .int .i64 (catchK a0 a1)]) ∧ ChartX w' (New w.heap.size w'.heap.size) u (catchL a0 a1) ∧ Up w w' := by
  have H := Lib.hid h
  have hn : I64 a0.n := by obtain ⟨_, _, _, _, _, hn⟩ := h; exact hn
  obtain ⟨A, kk, rfl, -⟩ := h
  have WBB := Lib.hid (show Up w ((w.alloc (.cells #[.int .i64 a0.n, .slice A a0.rs.length kk] 50)).alloc (.cells #[.int .i64 0, .slice none 0 0] 47)) from ((Chg.refl Nowhere w).alloc _).alloc _)
  go_enter Try.func19, Try.ntmps19
  go_wp2_with fail
  refine (ValidColours_any _ S S S _ a0 (H.out.up (by repeat (first | exact Chg.refl _ _ | apply Chg.drew | apply Chg.drewN | refine Chg.alloc ?_ _)))).mono ?_
  rintro e w1 ⟨rfl, g1⟩
  obtain ⟨x0, f0⟩ := CellF.up g1 (show CellF ((w.alloc (.cells #[.int .i64 a0.n, .slice A a0.rs.length kk] 50)).alloc (.cells #[.int .i64 0, .slice none 0 0] 47)) ⟨w.heap.size + 1, 0, none⟩ (.int .i64 0) from (by repeat (first | ((refine cellF_at ?_ rfl); (simp; done)) | refine CellF.up ((Chg.refl _ _).alloc _) ?_)))
  obtain ⟨x1, f1⟩ := CellF.up g1 (show CellF ((w.alloc (.cells #[.int .i64 a0.n, .slice A a0.rs.length kk] 50)).alloc (.cells #[.int .i64 0, .slice none 0 0] 47)) ⟨w.heap.size + 1, 1, none⟩ (.slice none 0 0) from (by repeat (first | ((refine cellF_at ?_ rfl); (simp; done)) | refine CellF.up ((Chg.refl _ _).alloc _) ?_)))
  obtain ⟨p0, r0⟩ := CellF.up g1 (show CellF ((w.alloc (.cells #[.int .i64 a0.n, .slice A a0.rs.length kk] 50)).alloc (.cells #[.int .i64 0, .slice none 0 0] 47)) ⟨w.heap.size, 0, none⟩ (.int .i64 a0.n) from (by repeat (first | ((refine cellF_at ?_ rfl); (simp; done)) | refine CellF.up ((Chg.refl _ _).alloc _) ?_)))
  obtain ⟨p1, r1⟩ := CellF.up g1 (show CellF ((w.alloc (.cells #[.int .i64 a0.n, .slice A a0.rs.length kk] 50)).alloc (.cells #[.int .i64 0, .slice none 0 0] 47)) ⟨w.heap.size, 1, none⟩ (.slice A a0.rs.length kk) from (by repeat (first | ((refine cellF_at ?_ rfl); (simp; done)) | refine CellF.up ((Chg.refl _ _).alloc _) ?_)))
  have GB := Lib.hid (show Up ((w.alloc (.cells #[.int .i64 a0.n, .slice A a0.rs.length kk] 50)).alloc (.cells #[.int .i64 0, .slice none 0 0] 47)) w1 from g1)
  have G1 := Lib.hid (show Up w w1 from Chg.trans WBB.out g1)
  have hzz := g1.size
  simp only [World.size_alloc] at hzz
  clear g1
  by_cases hb : okCol a0 = true
  rotate_left
  · have hbb : okCol a0 = false := by simpa using hb
    obtain ⟨e1, e2⟩ := catch_no (m := a1) hbb
    have CZ := Lib.hid (show Chg (fun b => b = (w.heap.size + 1)) w1 ((w1.setCell ⟨(w.heap.size + 1), 0, none⟩ (.int .i64 0)).setCell ⟨(w.heap.size + 1), 1, none⟩ (.slice none 0 0)) from Chg.setCell (Chg.setCell (Chg.refl (fun b => b = (w.heap.size + 1)) w1) (p := ⟨(w.heap.size + 1), 0, none⟩) (.inl (show (w.heap.size + 1) = (w.heap.size + 1) from rfl)) _) (p := ⟨(w.heap.size + 1), 1, none⟩) (.inl (show (w.heap.size + 1) = (w.heap.size + 1) from rfl)) _)
    go_wp2_with fail
    refine bodyPost_ret (v := .tuple #[.agg #[.int .i64 0, .slice none 0 0], .int .i64 1]) (by simp [results, Try.results19, go_sem, x0, x1]) rfl ?_
    exact ⟨_, by rw [e1], by rw [e2]; exact chartX_nil _ _, Chg.new G1.out CZ.out (fun i hi e => by have e : i = w.heap.size + 1 := e; omega)⟩
  obtain ⟨hz1, hz2⟩ := okCol_sz hb
  by_cases hm : 1 ≤ a1 ∧ a1 ≤ 8
  rotate_left
  · obtain ⟨e1, e2⟩ := catch_rng (m := a1) hb (by unfold inB; simpa using hm)
    have hm2 : a1 < 1 ∨ 8 < a1 := by omega
    go_wp2_with (go_at_call 69; refine (within_no _ _ _ _ ?_).mono ?_; (omega); rintro e w' ⟨rfl, rfl⟩)
    have CZ := Lib.hid (show Chg (fun b => b = (w.heap.size + 1)) w1 ((w1.setCell ⟨(w.heap.size + 1), 0, none⟩ (.int .i64 0)).setCell ⟨(w.heap.size + 1), 1, none⟩ (.slice none 0 0)) from Chg.setCell (Chg.setCell (Chg.refl (fun b => b = (w.heap.size + 1)) w1) (p := ⟨(w.heap.size + 1), 0, none⟩) (.inl (show (w.heap.size + 1) = (w.heap.size + 1) from rfl)) _) (p := ⟨(w.heap.size + 1), 1, none⟩) (.inl (show (w.heap.size + 1) = (w.heap.size + 1) from rfl)) _)
    refine bodyPost_ret (v := .tuple #[.agg #[.int .i64 0, .slice none 0 0], .int .i64 2]) (by simp [results, Try.results19, go_sem, x0, x1]) rfl ?_
    exact ⟨_, by rw [e1], by rw [e2]; exact chartX_nil _ _, Chg.new G1.out CZ.out (fun i hi e => by have e : i = w.heap.size + 1 := e; omega)⟩
  have E12 := Lib.hid (catch_yes (m := a1) hb (by unfold inB; simpa using hm))
  go_wp2_with (first | (go_at_call 69; refine (within_yes _ _ _ _ ?_).mono ?_; (omega); rintro e w' ⟨rfl, rfl⟩) | (go_at_call 71; refine (coloured_any _ S S S _ a0 ((show ColV w S S S _ a0 from H.out).up (Chg.trans G1.out (by repeat (first | exact Chg.refl _ _ | apply Chg.drew | apply Chg.drewN | refine Chg.alloc ?_ _)))) (by omega) (fun i hi => by have := hz2 i hi; omega) a1 (by omega)).mono ?_; rintro e w2 ⟨A2, k2, rfl, hr2, hl2, hk2, g2⟩; have HCX := Lib.hid (show ChartX w2 (New w1.heap.size w2.heap.size) (.agg #[.int .i64 a0.n, .slice A2 (chartC a0 a1).rs.length k2]) (chartC a0 a1) from ⟨_, rfl, hr2.mono (fun b _ h => ⟨by have := h.1; first | exact this | (simpa using this), h.2⟩), hn⟩); have G2 := Lib.hid (show Up w1 w2 from Chg.trans (by repeat (first | exact Chg.refl _ _ | apply Chg.drew | apply Chg.drewN | refine Chg.alloc ?_ _)) g2); clear g2 hr2) | (go_at_call 70; refine (ifChart_any _ (New w1.heap.size w2.heap.size) _ (chartC a0 a1) (HCX.out.up (by repeat (first | exact Chg.refl _ _ | apply Chg.drew | apply Chg.drewN | refine Chg.alloc ?_ _))) (fun b h => Nat.lt_of_lt_of_le h.2 (Chg.size (show Up w2 _ from (by repeat (first | exact Chg.refl _ _ | apply Chg.drew | apply Chg.drewN | refine Chg.alloc ?_ _)))))).mono ?_; rintro e w3 ⟨A3, k3, r, kc, hkc, hr3, rfl, hx3, g3⟩; have G3 := Lib.hid (show Up w2 w3 from Chg.trans (by repeat (first | exact Chg.refl _ _ | apply Chg.drew | apply Chg.drewN | refine Chg.alloc ?_ _)) g3); have HX3 := Lib.hid hx3; have G13 := Lib.hid (Chg.trans G2.out G3.out); obtain ⟨x0, f0⟩ := CellF.up G13.out ⟨x0, f0⟩; obtain ⟨x1, f1⟩ := CellF.up G13.out ⟨x1, f1⟩; clear g3 hx3))
  have CZ := Lib.hid (show Chg (fun b => b = (w.heap.size + 1)) w3 ((w3.setCell ⟨(w.heap.size + 1), 0, none⟩ (.int .i64 r.n)).setCell ⟨(w.heap.size + 1), 1, none⟩ (.slice A3 r.rs.length k3)) from Chg.setCell (Chg.setCell (Chg.refl (fun b => b = (w.heap.size + 1)) w3) (p := ⟨(w.heap.size + 1), 0, none⟩) (.inl (show (w.heap.size + 1) = (w.heap.size + 1) from rfl)) _) (p := ⟨(w.heap.size + 1), 1, none⟩) (.inl (show (w.heap.size + 1) = (w.heap.size + 1) from rfl)) _)
  refine bodyPost_ret (v := .tuple #[.agg #[.int .i64 r.n, .slice A3 r.rs.length k3], .int .i64 kc]) (by simp [results, Try.results19, go_sem, x0, x1]) rfl ?_
  exact ⟨_, by rw [E12.out.1, ← hkc.out], by rw [E12.out.2, ← hr3.out]; exact ((HX3.out.keep CZ.out (fun b _ hs e => by have h1 := hs.1; have e : b = w.heap.size + 1 := e; omega)).mono (fun b hb h => ⟨Nat.le_trans G1.out.size h.1, hb⟩)), Chg.new (Chg.trans G1.out G13.out) CZ.out (fun i hi e => by have e : i = w.heap.size + 1 := e; omega)⟩
theorem sCatchFloats_A (w : World) (S : Nat → Prop) (v : Value) (a0 : ColM) (h : ColA w S v a0) (a1 : Int) :
    Calls Try.prog 17 #[v, .int .i64 a1] w fun e w' => ∃ u, e = .returned (.tuple #[u, .int .i64 (catchK a0 a1)]) ∧ ChartX w' (New w.heap.size w'.heap.size) u (catchL a0 a1) ∧ Up w w' := by
  obtain ⟨A, kk, rfl, h0, ⟨hlk, hkm⟩, hn⟩ := h
  have H0 := Lib.hid h0
  clear h0
  have WBB := Lib.hid (show Up w ((w.alloc (.cells #[.int .i64 a0.n, .slice A a0.rs.length kk] 50)).alloc (.cells #[.int .i64 0, .slice none 0 0] 47)) from ((Chg.refl Nowhere w).alloc _).alloc _)
  go_enter Try.func17, Try.ntmps17
  go_wp2_with fail
  refine (l19Ok_any _ S S S _ a0 A kk (show CellF ((w.alloc (.cells #[.int .i64 a0.n, .slice A a0.rs.length kk] 50)).alloc (.cells #[.int .i64 0, .slice none 0 0] 47)) ⟨w.heap.size, 0, none⟩ (.int .i64 a0.n) from (by repeat (first | ((refine cellF_at ?_ rfl); (simp; done)) | refine CellF.up ((Chg.refl _ _).alloc _) ?_))).1 (show CellF ((w.alloc (.cells #[.int .i64 a0.n, .slice A a0.rs.length kk] 50)).alloc (.cells #[.int .i64 0, .slice none 0 0] 47)) ⟨w.heap.size, 1, none⟩ (.slice A a0.rs.length kk) from (by repeat (first | ((refine cellF_at ?_ rfl); (simp; done)) | refine CellF.up ((Chg.refl _ _).alloc _) ?_))).1 ((show IntSSV w S S S _ a0.rs from H0.out).up WBB.out) ⟨hlk, hkm⟩).mono ?_
  rintro e w1 ⟨rfl, g1⟩
  obtain ⟨x0, f0⟩ := CellF.up g1 (show CellF ((w.alloc (.cells #[.int .i64 a0.n, .slice A a0.rs.length kk] 50)).alloc (.cells #[.int .i64 0, .slice none 0 0] 47)) ⟨w.heap.size + 1, 0, none⟩ (.int .i64 0) from (by repeat (first | ((refine cellF_at ?_ rfl); (simp; done)) | refine CellF.up ((Chg.refl _ _).alloc _) ?_)))
  obtain ⟨x1, f1⟩ := CellF.up g1 (show CellF ((w.alloc (.cells #[.int .i64 a0.n, .slice A a0.rs.length kk] 50)).alloc (.cells #[.int .i64 0, .slice none 0 0] 47)) ⟨w.heap.size + 1, 1, none⟩ (.slice none 0 0) from (by repeat (first | ((refine cellF_at ?_ rfl); (simp; done)) | refine CellF.up ((Chg.refl _ _).alloc _) ?_)))
  obtain ⟨p0, r0⟩ := CellF.up g1 (show CellF ((w.alloc (.cells #[.int .i64 a0.n, .slice A a0.rs.length kk] 50)).alloc (.cells #[.int .i64 0, .slice none 0 0] 47)) ⟨w.heap.size, 0, none⟩ (.int .i64 a0.n) from (by repeat (first | ((refine cellF_at ?_ rfl); (simp; done)) | refine CellF.up ((Chg.refl _ _).alloc _) ?_)))
  obtain ⟨p1, r1⟩ := CellF.up g1 (show CellF ((w.alloc (.cells #[.int .i64 a0.n, .slice A a0.rs.length kk] 50)).alloc (.cells #[.int .i64 0, .slice none 0 0] 47)) ⟨w.heap.size, 1, none⟩ (.slice A a0.rs.length kk) from (by repeat (first | ((refine cellF_at ?_ rfl); (simp; done)) | refine CellF.up ((Chg.refl _ _).alloc _) ?_)))
  have GB := Lib.hid (show Up ((w.alloc (.cells #[.int .i64 a0.n, .slice A a0.rs.length kk] 50)).alloc (.cells #[.int .i64 0, .slice none 0 0] 47)) w1 from g1)
  have G1 := Lib.hid (show Up w w1 from Chg.trans WBB.out g1)
  have hzz := g1.size
  simp only [World.size_alloc] at hzz
  clear g1
  by_cases hb : okCol a0 = true
  rotate_left
  · have hbb : okCol a0 = false := by simpa using hb
    obtain ⟨e1, e2⟩ := catch_no (m := a1) hbb
    have CZ := Lib.hid (show Chg (fun b => b = (w.heap.size + 1)) w1 ((w1.setCell ⟨(w.heap.size + 1), 0, none⟩ (.int .i64 0)).setCell ⟨(w.heap.size + 1), 1, none⟩ (.slice none 0 0)) from Chg.setCell (Chg.setCell (Chg.refl (fun b => b = (w.heap.size + 1)) w1) (p := ⟨(w.heap.size + 1), 0, none⟩) (.inl (show (w.heap.size + 1) = (w.heap.size + 1) from rfl)) _) (p := ⟨(w.heap.size + 1), 1, none⟩) (.inl (show (w.heap.size + 1) = (w.heap.size + 1) from rfl)) _)
    go_wp2_with fail
    refine bodyPost_ret (v := .tuple #[.agg #[.int .i64 0, .slice none 0 0], .int .i64 1]) (by simp [results, Try.results17, go_sem, x0, x1]) rfl ?_
    exact ⟨_, by rw [e1], by rw [e2]; exact chartX_nil _ _, Chg.new G1.out CZ.out (fun i hi e => by have e : i = w.heap.size + 1 := e; omega)⟩
  obtain ⟨hz1, hz2⟩ := okCol_sz hb
  by_cases hm : 1 ≤ a1 ∧ a1 ≤ 8
  rotate_left
  · obtain ⟨e1, e2⟩ := catch_rng (m := a1) hb (by unfold inB; simpa using hm)
    have hm2 : a1 < 1 ∨ 8 < a1 := by omega
    go_wp2_with (go_at_call 47; refine (l00In_no _ _ _ _ ?_).mono ?_; (omega); rintro e w' ⟨rfl, rfl⟩)
    have CZ := Lib.hid (show Chg (fun b => b = (w.heap.size + 1)) w1 ((w1.setCell ⟨(w.heap.size + 1), 0, none⟩ (.int .i64 0)).setCell ⟨(w.heap.size + 1), 1, none⟩ (.slice none 0 0)) from Chg.setCell (Chg.setCell (Chg.refl (fun b => b = (w.heap.size + 1)) w1) (p := ⟨(w.heap.size + 1), 0, none⟩) (.inl (show (w.heap.size + 1) = (w.heap.size + 1) from rfl)) _) (p := ⟨(w.heap.size + 1), 1, none⟩) (.inl (show (w.heap.size + 1) = (w.heap.size + 1) from rfl)) _)
    refine bodyPost_ret (v := .tuple #[.agg #[.int .i64 0, .slice none 0 0], .int .i64 2]) (by simp [results, Try.results17, go_sem, x0, x1]) rfl ?_
    exact ⟨_, by rw [e1], by rw [e2]; exact chartX_nil _ _, Chg.new G1.out CZ.out (fun i hi e => by have e : i = w.heap.size + 1 := e; omega)⟩
  have E12 := Lib.hid (catch_yes (m := a1) hb (by unfold inB; simpa using hm))
  go_wp2_with (first | (go_at_call 47; refine (l00In_yes _ _ _ _ ?_).mono ?_; (omega); rintro e w' ⟨rfl, rfl⟩) | (go_at_call 67; refine (l19Chart_any _ S S S _ a0 A kk (Chg.cell (S := Nowhere) (by repeat (first | exact Chg.refl _ _ | apply Chg.drew | apply Chg.drewN | refine Chg.alloc ?_ _)) p0 id) (Chg.cell (S := Nowhere) (by repeat (first | exact Chg.refl _ _ | apply Chg.drew | apply Chg.drewN | refine Chg.alloc ?_ _)) p1 id) ((show IntSSV w S S S _ a0.rs from H0.out).up (Chg.trans G1.out (by repeat (first | exact Chg.refl _ _ | apply Chg.drew | apply Chg.drewN | refine Chg.alloc ?_ _)))) ⟨hlk, hkm⟩ hn (by omega) (fun i hi => by have := hz2 i hi; omega) a1 (by omega)).mono ?_; rintro e w2 ⟨u, he, hx2, g2⟩; obtain ⟨kc, hk4⟩ : ∃ kc : Int, kc = (if chartB (chartC a0 a1) then 0 else 5) := ⟨_, rfl⟩; rw [← hk4] at he; have hkc := Lib.hid hk4; clear hk4; obtain ⟨r, hr4⟩ : ∃ r, r = (if chartB (chartC a0 a1) then chartC a0 a1 else ⟨0, []⟩) := ⟨_, rfl⟩; rw [← hr4] at hx2; have hr3 := Lib.hid hr4; clear hr4; obtain ⟨A3, k3, rfl, -, -, -⟩ := openChartX hx2; subst he; have HX3 := Lib.hid (ChartX.mono (T := New w1.heap.size w2.heap.size) hx2 (fun b _ h => ⟨by have := h.1; first | exact this | (simpa using this), h.2⟩)); have G13 := Lib.hid (show Up w1 w2 from Chg.trans (by repeat (first | exact Chg.refl _ _ | apply Chg.drew | apply Chg.drewN | refine Chg.alloc ?_ _)) g2); obtain ⟨x0, f0⟩ := CellF.up G13.out ⟨x0, f0⟩; obtain ⟨x1, f1⟩ := CellF.up G13.out ⟨x1, f1⟩; clear g2 hx2))
  have CZ := Lib.hid (show Chg (fun b => b = (w.heap.size + 1)) w2 ((w2.setCell ⟨(w.heap.size + 1), 0, none⟩ (.int .i64 r.n)).setCell ⟨(w.heap.size + 1), 1, none⟩ (.slice A3 r.rs.length k3)) from Chg.setCell (Chg.setCell (Chg.refl (fun b => b = (w.heap.size + 1)) w2) (p := ⟨(w.heap.size + 1), 0, none⟩) (.inl (show (w.heap.size + 1) = (w.heap.size + 1) from rfl)) _) (p := ⟨(w.heap.size + 1), 1, none⟩) (.inl (show (w.heap.size + 1) = (w.heap.size + 1) from rfl)) _)
  refine bodyPost_ret (v := .tuple #[.agg #[.int .i64 r.n, .slice A3 r.rs.length k3], .int .i64 kc]) (by simp [results, Try.results17, go_sem, x0, x1]) rfl ?_
  exact ⟨_, by rw [E12.out.1, ← hkc.out], by rw [E12.out.2, ← hr3.out]; exact ((HX3.out.keep CZ.out (fun b _ hs e => by have h1 := hs.1; have e : b = w.heap.size + 1 := e; omega)).mono (fun b hb h => ⟨Nat.le_trans G1.out.size h.1, hb⟩)), Chg.new (Chg.trans G1.out G13.out) CZ.out (fun i hi e => by have e : i = w.heap.size + 1 := e; omega)⟩
end Go.Proofs.Ytchfjglofmphfaa
