/- All moves' operations. No condition. -/
import Derived.Test.YtmimbnpcokfnlaaPlan2
import Derived.Test.YtmimbnpcokfnlaaStepO
import Derived.Test.YtmimbnpcokfnlaaRack
import Derived.StillTailTactics
import Derived.Deep.RegionHeld3
namespace Go.Proofs.Ytmimbnpcokfnlaa
open Go.ChangeShapes Go.WideShapes Go.ChangeAt Go.RowKit
def MoveM.near (m : MoveM) : Prop := (0 ≤ m.fr ∧ m.fr ≤ 23) ∧ (0 ≤ m.to ∧ m.to ≤ 23)
theorem stepsF_near : ∀ (n : Nat) (f t : Int), (0 ≤ f ∧ f ≤ 23) → (0 ≤ t ∧ t ≤ 23) → ∀ m ∈ stepsF n f t, m.near
  | 0, _, _, _, _ => by simp [stepsF]
  | n + 1, f, t, hf, ht => by
    intro m hm
    unfold stepsF at hm
    split at hm
    · simp at hm
    · rcases List.mem_cons.1 hm with rfl | hm
      · exact ⟨hf, nextOf_in hf ht⟩
      · exact stepsF_near n _ t (nextOf_in hf ht) ht m hm
theorem planM_near {xs ys : List Int} (h : PlanOk xs ys) : ∀ m ∈ planM xs ys, m.near := by
  obtain ⟨h1, _, h3, h4⟩ := h
  have hs : ∀ i, i < xs.length → ∀ m ∈ stepsM (ix xs i) (ix ys i), m.near := fun i hi m hm => stepsF_near 24 _ _ (h3 i hi) (h4 i hi) m hm
  intro m hm
  rcases List.mem_append.1 hm with hm | hm
  · obtain ⟨r, hr, hm⟩ := List.mem_flatMap.1 hm
    have hr := List.mem_range.1 hr
    unfold upAt at hm
    split at hm
    · exact hs _ (by omega) m hm
    · simp at hm
  · obtain ⟨r, hr, hm⟩ := List.mem_flatMap.1 hm
    have hr := List.mem_range.1 hr
    unfold downAt at hm
    split at hm
    · exact hs _ (by omega) m hm
    · simp at hm
def colsM (ms : List MoveM) : List OpM := ms.flatMap fun m => rackM m.fr m.to
theorem colsM_snoc (ms : List MoveM) (m : MoveM) : colsM (ms ++ [m]) = colsM ms ++ rackM m.fr m.to := by simp [colsM]
theorem colsM_len (ms : List MoveM) : (colsM ms).length = 4 * ms.length := by
  induction ms with
  | nil => rfl
  | cons m ms ih => simp only [colsM, List.flatMap_cons, List.length_append, List.length_cons] at *; rw [ih]; simp [rackM]; omega
theorem colsM_take {ms : List MoveM} {j : Nat} (h : j < ms.length) : colsM (ms.take (j + 1)) = colsM (ms.take j) ++ rackM ms[j].fr ms[j].to := by
  rw [List.take_succ_eq_append_getElem h, colsM_snoc]
def colsOut (xs ys : List Int) : List OpM := colsM (planOut xs ys)
theorem planCode_zero' {xs ys : List Int} (h : planCode xs ys = 0) : PlanOk xs ys := by
  unfold planCode at h
  split at h
  · rename_i hh; exact planOk_of hh.1 hh.2.1 hh.2.2
  · omega
theorem planOut_near (xs ys : List Int) : ∀ m ∈ planOut xs ys, m.near := by
  by_cases hz : planCode xs ys = 0
  · rw [planOut_ok hz]; exact planM_near (planCode_zero' hz)
  · rw [planOut_no rfl hz]; simp
theorem planOut_len (xs ys : List Int) : (planOut xs ys).length ≤ 384 := by
  by_cases hz : planCode xs ys = 0
  · rw [planOut_ok hz]; exact planM_len (planCode_zero' hz).2.1
  · rw [planOut_no rfl hz]; simp
set_option maxRecDepth 100000 in
set_option maxHeartbeats 4000000 in
theorem moveColumns_any (w : World) (S T : Nat → Prop) (v u : Value) (xs ys : List Int) (h : Ints w S v xs) (h2 : Ints w T u ys) :
    Calls Try.prog 186 #[v, u] w fun e w' => ∃ v', e = .returned (.tuple #[v', .int .i64 (planCode xs ys)]) ∧ Ops w' (New w.heap.size w'.heap.size) v' (colsOut xs ys) ∧ Up w w' := by
  obtain ⟨A, c, rfl, hlc, hcm, -⟩ := h.shape
  obtain ⟨A2, c2, rfl, hlc2, hcm2, -⟩ := h2.shape
  have H := Lib.hid h
  have H2 := Lib.hid h2
  clear h h2
  go_enter Try.func186, Try.ntmps186
  go_wp2_with fail
  refine (PlanMoves_any _ S T _ _ xs ys H.out H2.out).mono ?_
  rintro e w1 ⟨v1, rfl, k1, g1⟩
  obtain ⟨A3, c3, rfl, hlc3, hcm3, -⟩ := k1.shape
  have K1 := Lib.hid k1
  have G1 := Lib.hid g1
  have hz1 := g1.size
  clear k1 g1
  by_cases hz : planCode xs ys = 0
  rotate_left
  · have hb : (planCode xs ys != 0) = true := by simpa using hz
    have HE := Lib.hid (show colsOut xs ys = [] by unfold colsOut; rw [planOut_no rfl hz]; rfl)
    clear hz
    go_wp2
    go_ret2
    exact ⟨_, rfl, by rw [HE.out]; exact Ops.nil _ _ _ _ (by omega), G1.out⟩
  have hb : (planCode xs ys != 0) = false := by simpa using hz
  have HZ := Lib.hid hz
  have HN := Lib.hid (planOut_near xs ys)
  have hle := planOut_len xs ys
  clear hz
  generalize hms : planOut xs ys = ms at *
  have HMS := Lib.hid hms
  clear hms
  go_wp2
  go_loopw [8, 10, 23] (fun v _ i wr => ∃ j : Nat, j ≤ ms.length ∧ i = .int .i64 j ∧ Hid (OwnO wr w1.heap.size v (colsM (ms.take j))) ∧ Hid (Up w1 wr)) (fun _ _ i _ => ms.length - (intOf i).toNat)
  case atStart => exact ⟨0, by omega, rfl, OwnO.made w1 _ (Nat.le_refl _), (Chg.refl _ _).alloc _⟩
  case round =>
    obtain ⟨j, hj, rfl, ho, hg⟩ := hrel
    by_cases hlt : j < ms.length
    · obtain ⟨b, o, c', he, -, hbl, hc⟩ := (K1.out.up hg.out).at_ hlt
      obtain ⟨rfl, rfl⟩ : A3 = some ⟨b, o, none⟩ ∧ c3 = c' := by simpa using he
      have f0 := (hc 0 _ rfl).1
      have f1 := (hc 1 _ rfl).1
      rw [Nat.add_zero] at f0
      have hn := HN.out ms[j] (List.getElem_mem hlt)
      have hn1 : 0 ≤ ms[j].fr ∧ ms[j].fr ≤ 1000 := ⟨hn.1.1, by have := hn.1.2; omega⟩
      have hn2 : 0 ≤ ms[j].to ∧ ms[j].to ≤ 1000 := ⟨hn.2.1, by have := hn.2.2; omega⟩
      have HLL := Lib.hid (show (colsM (ms.take j)).length + (rackM ms[j].fr ms[j].to).length ≤ 1099511627776 by rw [colsM_len]; simp [rackM]; omega)
      have HT := Lib.hid (colsM_take hlt)
      clear hc he hn
      go_wp2_with fail
      refine (rackOps_any _ ms[j].fr ms[j].to hn1 hn2).mono ?_
      rintro e w2 ⟨v2, rfl, k2, g2⟩
      obtain ⟨A5, c5, rfl, hlc5, hcm5, -⟩ := k2.shape
      have HO1 := Lib.hid (OwnO.up (ho.out.alloc _) g2)
      have HG1 := Lib.hid (Chg.trans (hg.out.alloc _) g2)
      have HK1 := Lib.hid k2
      have hz2 := HG1.out.size
      clear ho hg k2 g2
      go_wp2_with (first | (at_builtin; refine wp_append_ops rfl _ _ rfl w1.heap.size _ (colsM (ms.take j)) rfl HO1.out _ _ (rackM ms[j].fr ms[j].to) rfl HK1.out HLL.out ?_ ?_; (first | omega | (simp; omega)); intro v' w3 ho1 _ hg1; have HO := Lib.hid ho1; have HG := Lib.hid (Chg.new HG1.out hg1 (fun i hi => by omega)); clear ho1 hg1 HO1 HG1 HK1))
      go_roundw
      case rel => exact ⟨j + 1, by omega, by go_num, by rw [HT.out]; exact HO.out, HG.out⟩
      case measure => first | (simp [intOf]; done) | (simp [intOf]; omega)
    · obtain rfl : j = ms.length := by omega
      go_wp2
      go_ret2
      exact ⟨_, ret_mi HZ.out.symm, by unfold colsOut; rw [HMS.out]; have := ho.out.ops; rw [List.take_length] at this; exact this.mono (fun b _ hb => ⟨Nat.le_trans hz1 hb.1, hb.2⟩), Chg.trans G1.out hg.out⟩
set_option maxRecDepth 100000 in
set_option maxHeartbeats 4000000 in
theorem l21Columns_any (w : World) (S T : Nat → Prop) (v u : Value) (xs ys : List Int) (h : Ints w S v xs) (h2 : Ints w T u ys) (hz : planCode xs ys = 0) :
    Calls Try.prog 220 #[v, u] w fun e w' => ∃ v', e = .returned v' ∧ Ops w' (New w.heap.size w'.heap.size) v' (colsOut xs ys) ∧ Up w w' := by
  obtain ⟨A, c, rfl, hlc, hcm, -⟩ := h.shape
  obtain ⟨A2, c2, rfl, hlc2, hcm2, -⟩ := h2.shape
  have H := Lib.hid h
  have H2 := Lib.hid h2
  have HZ := Lib.hid hz
  have HN' := planOut_near xs ys
  have hle := planOut_len xs ys
  rw [planOut_ok hz] at HN' hle
  obtain ⟨ms, hms⟩ : ∃ ms, ms = planM xs ys := ⟨_, rfl⟩
  rw [← hms] at HN' hle
  have HN := Lib.hid HN'
  have HE := Lib.hid (show colsOut xs ys = colsM ms by unfold colsOut; rw [planOut_ok hz, hms])
  have HMS := Lib.hid hms
  clear HN'
  clear h h2 hz hms
  go_enter Try.func220, Try.ntmps220
  go_wp2_with fail
  refine (l21Plan_any _ S T _ _ xs ys H.out H2.out (planCode_zero' HZ.out)).mono ?_
  rw [← HMS.out]
  rintro e w1 ⟨v1, rfl, k1, g1⟩
  obtain ⟨A3, c3, rfl, hlc3, hcm3, -⟩ := k1.shape
  have K1 := Lib.hid k1
  have G1 := Lib.hid g1
  have hz1 := g1.size
  clear k1 g1
  go_wp2
  go_loopw [6, 7] (fun v i wr => ∃ j : Nat, j ≤ ms.length ∧ i = .int .i64 j ∧ Hid (OwnO wr w1.heap.size v (colsM (ms.take j))) ∧ Hid (Up w1 wr)) (fun _ i _ => ms.length - (intOf i).toNat)
  case atStart => exact ⟨0, by omega, rfl, OwnO.made w1 _ (Nat.le_refl _), (Chg.refl _ _).alloc _⟩
  case round =>
    obtain ⟨j, hj, rfl, ho, hg⟩ := hrel
    by_cases hlt : j < ms.length
    · obtain ⟨b0, o0, c0, he0, -, hb0, -⟩ := K1.out.at_ hlt
      obtain ⟨b, o, c', he, -, hbl, hc⟩ := (K1.out.up hg.out).at_ hlt
      obtain ⟨rfl, rfl⟩ : b = b0 ∧ o = o0 := by have := he.symm.trans he0; simp at this; exact this.1
      obtain ⟨rfl, rfl⟩ : A3 = some ⟨b, o, none⟩ ∧ c3 = c' := by simpa using he
      have f0 := (hc 0 _ rfl).1
      have f1 := (hc 1 _ rfl).1
      rw [Nat.add_zero] at f0
      have hn := HN.out ms[j] (List.getElem_mem hlt)
      have hn1 : 0 ≤ ms[j].fr ∧ ms[j].fr ≤ 1000 := ⟨hn.1.1, by have := hn.1.2; omega⟩
      have hn2 : 0 ≤ ms[j].to ∧ ms[j].to ≤ 1000 := ⟨hn.2.1, by have := hn.2.2; omega⟩
      have HLL := Lib.hid (show (colsM (ms.take j)).length + (rackM ms[j].fr ms[j].to).length ≤ 1099511627776 by rw [colsM_len]; simp [rackM]; omega)
      have HT := Lib.hid (colsM_take hlt)
      clear hc he hn
      go_wp2
      have hbw : b < w1.heap.size := hb0
      have HO0 := Lib.hid ho.out
      have HG0 := Lib.hid hg.out
      clear ho hg
      go_region_held3 (fun w' => w'.cell? ⟨b, o + j * 2, none⟩ = some (.int .i64 ms[j].fr) ∧ w'.cell? ⟨b, o + j * 2 + 1, none⟩ = some (.int .i64 ms[j].to))
        (first | (exact ⟨f0, f1⟩) | (obtain ⟨q0, q1⟩ : (World.cell? _ _ = _ ∧ World.cell? _ _ = _) := (by assumption); exact ⟨Chg.cell g1 q0 id, Chg.cell g1 q1 id⟩) | (obtain ⟨q0, q1⟩ : (World.cell? _ _ = _ ∧ World.cell? _ _ = _) := (by assumption); exact ⟨Chg.cell hg1 q0 (by simp only []; omega), Chg.cell hg1 q1 (by simp only []; omega)⟩))
        (first | (go_at_call 247; refine (l21Over_any _ ms[j].fr ms[j].to hn1 hn2).mono ?_; rintro e w2 ⟨v1, rfl, k1, g1⟩; obtain ⟨A1, c1, rfl, hl1, hc1, -⟩ := k1.shape; have HK1 := Lib.hid k1; have HO1 := Lib.hid (OwnO.up (OwnO.up HO0.out ((Chg.refl Nowhere _).drew)) g1); have HG1 := Lib.hid (Chg.trans (Chg.drew HG0.out) g1); have hsz := HG1.out.size; clear k1) | (refine step_appendOps (by rfl) _ _ (by rfl) w1.heap.size _ (colsM (ms.take j)) (by rfl) HO1.out _ _ (rackM ms[j].fr ms[j].to) (by rfl) HK1.out HLL.out ?_ ?_; (first | omega | (simp; omega)); intro v' w3 ho1 _ hg1; have HO := Lib.hid ho1; have HG := Lib.hid (Chg.new HG1.out hg1 (fun i hi => by omega)); clear ho1))
      clear g1 hg1 f0 f1
      go_wp2
      go_roundw
      case rel => exact ⟨j + 1, by omega, by go_num, by rw [HT.out]; exact HO.out, HG.out⟩
      case measure => first | (simp [intOf]; done) | (simp [intOf]; omega)
    · obtain rfl : j = ms.length := by omega
      go_wp2
      go_ret
      exact ⟨_, rfl, by rw [HE.out]; have := ho.out.ops; rw [List.take_length] at this; exact this.mono (fun b _ hb => ⟨Nat.le_trans hz1 hb.1, hb.2⟩), Chg.trans G1.out hg.out⟩
end Go.Proofs.Ytmimbnpcokfnlaa
