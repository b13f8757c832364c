/- Machines: the program's areApart. No condition. -/
import Derived.Test.YtchfjglofmphfaaMacX
set_option linter.unusedSimpArgs false
set_option linter.unusedVariables false
set_option maxRecDepth 100000
set_option maxHeartbeats 4000000
namespace Go.Proofs.Ytchfjglofmphfaa
open Go.ChangeShapes Go.WideShapes Go.ChangeAt Go.RowKit
def proc (xss : List (List Int)) (i k : Nat) : List Int := (xss.take i).flatten ++ (xss.getD i []).take k
theorem proc_start (xss : List (List Int)) : proc xss 0 0 = [] := by simp [proc]
theorem proc_next {xss : List (List Int)} {i k : Nat} (hi : i < xss.length) (hk : k < xss[i].length) : proc xss i (k + 1) = proc xss i k ++ [xss[i][k]] := by
  unfold proc
  rw [getD_eq hi, List.take_succ_eq_append_getElem hk, List.append_assoc]
theorem proc_row {xss : List (List Int)} {i : Nat} (hi : i < xss.length) : proc xss (i + 1) 0 = proc xss i xss[i].length := by
  unfold proc
  rw [getD_eq hi, List.take_length, List.take_zero, List.append_nil, flatLL_take _ _ hi]
theorem proc_end (xss : List (List Int)) : proc xss xss.length 0 = xss.flatten := by
  unfold proc
  rw [List.take_length, List.take_zero, List.append_nil]
theorem proc_split {xss : List (List Int)} {i k : Nat} (hi : i < xss.length) (hk : k < xss[i].length) : ∃ z, xss.flatten = proc xss i k ++ xss[i][k] :: z := by
  refine ⟨xss[i].drop (k + 1) ++ (xss.drop (i + 1)).flatten, ?_⟩
  unfold proc
  rw [getD_eq hi]
  conv => lhs; rw [← List.take_append_drop i xss, List.flatten_append, ← List.getElem_cons_drop hi, List.flatten_cons]
  rw [List.append_assoc]
  refine congrArg (_ ++ ·) ((congrArg (· ++ _) (split_at hk)).trans ?_)
  simp only [List.append_assoc, List.cons_append]
/-- the numbers that were met -/
def SeenN (w : World) (g n : Nat) (ys : List Int) : Prop := ∀ t : Nat, t < n → w.cell? ⟨g, t, none⟩ = some (.bool (decide ((t : Int) ∈ ys))) ∧ w.frozen? ⟨g, t, none⟩ = false
theorem SeenN.up {w w' : World} {g n : Nat} {ys : List Int} (h : SeenN w g n ys) (k : Up w w') : SeenN w' g n ys := fun t ht => ⟨k.cell (h t ht).1 id, (k.frozen (h t ht).1 id).trans (h t ht).2⟩
theorem SeenN.next {w : World} {g n k : Nat} {ys : List Int} {x : Int} (h : SeenN w g n ys) (hk : x = k) (hk2 : k < n) : SeenN (w.setCell ⟨g, k, none⟩ (.bool true)) g n (ys ++ [x]) := fun t ht => by
  obtain ⟨h1, h2⟩ := h t ht
  by_cases e : t = k
  · subst e
    exact ⟨by rw [World.cell?_setCell_same _ _ _ h1]; simp [hk], by simpa using h2⟩
  · rw [World.cell?_setCell_other _ _ _ _ (fun h => e (by injection h with _ h _; exact h.symm))]
    refine ⟨?_, by simpa using h2⟩
    rw [h1]
    have : ((t : Int) ∈ ys ++ [x]) = ((t : Int) ∈ ys) := by
      rw [List.mem_append, List.mem_singleton, hk]
      exact propext ⟨fun h => h.elim id (fun h => absurd (by omega) e), .inl⟩
    simp only [this]
theorem infoBool : (Try.prog.info? 4).map (fun i => (i.zero, i.size, i.bytes)) = some (some (.bool false), 1, 1) := by kernel_rfl
theorem SeenN.made (w : World) (n : Nat) (e : TypeId) : SeenN (w.alloc (.cells (madeCells #[.bool false] n) e)) w.heap.size n [] := fun t ht => ⟨by
  rw [cell_new]
  simp [madeCells, ht, Nat.mod_one], frozen_new _ _ _ _⟩
theorem IntSSV.one {w : World} {M L : Nat → Prop} {g : Nat} {A : Option Addr} {c : Nat} {xs : List Int} (hc : w.cell? ⟨g, 0, none⟩ = some (.slice A xs.length c)) (hf : w.frozen? ⟨g, 0, none⟩ = false) (hg : g < w.heap.size) (h : Ints w L (.slice A xs.length c) xs) (h1 : xs.length ≤ c) (h2 : c ≤ 9223372036854775807) : IntSSV w M (fun b => b = g) L (.slice (some ⟨g, 0, none⟩) 1 1) [xs] :=
  ⟨[.slice A xs.length c], Raw.of_cells (n := 1) (k := 1) rfl hg rfl (Nat.le_refl _) (by omega) (fun t ht => by
    have : t = 0 := by simpa using ht
    subst this
    exact ⟨hc, hf⟩), fun i hi => by
    have : i = 0 := by simpa using hi
    subst this
    exact ⟨A, c, rfl, h, h1, h2⟩⟩
/-- all lists of a machine -/
def lstM (p : MacM) : List (List Int) := p.fr ++ (p.bk ++ [p.dr])
theorem lstM_eq (p : MacM) : ([p.fr, p.bk, [p.dr]] : List (List (List Int))).flatten = lstM p := by simp [lstM]
theorem lstM_flat (p : MacM) : (lstM p).flatten = lyingM p := by simp [lstM, lyingM]
theorem areApart_any (w : World) (M H L : Nat → Prop) (bm : Nat) (p : MacM) (A0 A1 A3 A4 : Option Addr) (c0 c1 c3 c4 : Nat) (q2 : w.cell? ⟨bm, 2, none⟩ = some (.slice A0 p.fr.length c0)) (q3 : w.cell? ⟨bm, 3, none⟩ = some (.slice A1 p.bk.length c1)) (q5 : w.cell? ⟨bm, 5, none⟩ = some (.slice A3 p.ls.length c3)) (q6 : w.cell? ⟨bm, 6, none⟩ = some (.slice A4 p.dr.length c4))
    (h0 : IntSSV w M H L (.slice A0 p.fr.length c0) p.fr) (h1 : IntSSV w M H L (.slice A1 p.bk.length c1) p.bk) (h4 : Ints w L (.slice A4 p.dr.length c4) p.dr) (hf : p.fr.length ≤ 24) (hb : p.bk.length ≤ 24) (hl : p.ls.length ≤ 300) (hd : p.dr.length ≤ c4 ∧ c4 ≤ 9223372036854775807) :
    Calls Try.prog 115 #[.pointer (some ⟨bm, 0, none⟩)] w fun e w' => e = .returned (.bool (apartB (lyingM p) p.ls.length)) ∧ Up w w' := by
  obtain ⟨i0, hi, hz0, hz1, hz2⟩ := info_parts infoBool
  have hmk : ∀ u : World, (Instr.makeSlice 218 (.int .i64 (p.ls.length : Int)) (.int .i64 (p.ls.length : Int))).run Try.prog u =
      .ok (.slice (some ⟨u.heap.size, 0, none⟩) p.ls.length p.ls.length) (u.alloc (.cells (madeCells #[.bool false] p.ls.length) 4)) := fun u => by
    have h := run_make (P := Try.prog) u 218 4 i0 (.bool false) Try.underlying218 hi hz0 .i64 .i64 (p.ls.length : Int) (p.ls.length : Int) (by omega) (Int.le_refl _) (by rw [hz2]; omega) (by omega)
    simpa [hz1, Value.cells] using h
  clear hi hz0 hz1 hz2
  have HL := Lib.hid (show ∀ b, (fun b => L b ∧ b < w.heap.size) b → b < w.heap.size from fun b h => h.2)
  have H0 := Lib.hid (h0.mono (M' := M) (H' := fun b => H b ∨ w.heap.size ≤ b) (L' := fun b => L b ∧ b < w.heap.size) (fun b _ h => h) (fun b _ h => .inl h) (fun b k h => ⟨h, k⟩))
  have H1 := Lib.hid (h1.mono (M' := M) (H' := fun b => H b ∨ w.heap.size ≤ b) (L' := fun b => L b ∧ b < w.heap.size) (fun b _ h => h) (fun b _ h => .inl h) (fun b k h => ⟨h, k⟩))
  have H4 := Lib.hid (h4.mono (T := fun b => L b ∧ b < w.heap.size) (fun b k h => ⟨h, k⟩))
  have HF := Lib.hid hf
  have HB := Lib.hid hb
  have HD := Lib.hid hd
  have HLS := Lib.hid hl
  have hbm := World.block_lt_of_cell? w _ q2
  have Q2 := Lib.hid q2
  have Q3 := Lib.hid q3
  have Q5 := Lib.hid q5
  have Q6 := Lib.hid q6
  clear h0 h1 h4 hf hb hd
  obtain ⟨w1, hw1⟩ : ∃ w1, w1 = w.alloc (.cells (madeCells #[.bool false] p.ls.length) 4) := ⟨_, rfl⟩
  have U1 := Lib.hid (show Up w w1 from hw1 ▸ (Chg.refl Nowhere w).alloc _)
  have S1 := Lib.hid (show SeenN w1 w.heap.size p.ls.length [] from hw1 ▸ SeenN.made w _ _)
  have hz1 : w1.heap.size = w.heap.size + 1 := by rw [hw1]; simp
  have r2 := Chg.cell U1.out q2 id
  have r3 := Chg.cell U1.out q3 id
  have r6 := Chg.cell U1.out q6 id
  have hw1' := hw1.symm
  clear hw1
  have HZ1 := Lib.hid hz1
  go_enter Try.func115, Try.ntmps115
  go_wp2
  clear hmk q2 q3 q5 q6
  clear hw1'
  have s2 := Chg.cell ((Chg.refl Nowhere w1).alloc (.cells #[.slice A4 p.dr.length c4] 25)) r2 id
  have t2 := Chg.cell ((Chg.refl Nowhere (w1.alloc (.cells #[.slice A4 p.dr.length c4] 25))).alloc (.cells #[.slice A0 p.fr.length c0, .slice A1 p.bk.length c1, .slice (some ⟨w.heap.size + 1, 0, none⟩) 1 1] 22)) s2 id
  have s3 := Chg.cell ((Chg.refl Nowhere w1).alloc (.cells #[.slice A4 p.dr.length c4] 25)) r3 id
  have t3 := Chg.cell ((Chg.refl Nowhere (w1.alloc (.cells #[.slice A4 p.dr.length c4] 25))).alloc (.cells #[.slice A0 p.fr.length c0, .slice A1 p.bk.length c1, .slice (some ⟨w.heap.size + 1, 0, none⟩) 1 1] 22)) s3 id
  have s6 := Chg.cell ((Chg.refl Nowhere w1).alloc (.cells #[.slice A4 p.dr.length c4] 25)) r6 id
  have t6 := Chg.cell ((Chg.refl Nowhere (w1.alloc (.cells #[.slice A4 p.dr.length c4] 25))).alloc (.cells #[.slice A0 p.fr.length c0, .slice A1 p.bk.length c1, .slice (some ⟨w.heap.size + 1, 0, none⟩) 1 1] 22)) s6 id
  have HCC : Hid (∀ wx, Up ((w1.alloc (.cells #[.slice A4 p.dr.length c4] 25)).alloc (.cells #[.slice A0 p.fr.length c0, .slice A1 p.bk.length c1, .slice (some ⟨w.heap.size + 1, 0, none⟩) 1 1] 22)) wx → Calls Try.prog 113 #[.slice (some ⟨w.heap.size + 2, 0, none⟩) 3 3] wx fun e w' => ∃ A c, e = .returned (.slice A (lstM p).length c) ∧ Hid (IntSSV w' Nowhere (New wx.heap.size w'.heap.size) (fun b => L b ∧ b < w.heap.size) (.slice A (lstM p).length c) (lstM p)) ∧ Hid ((lstM p).length ≤ c ∧ c ≤ 9223372036854775807) ∧ Up wx w') := Lib.hid fun wx gx => by
    have gw := Chg.trans U1.out (Chg.trans (show Up w1 ((w1.alloc (.cells #[.slice A4 p.dr.length c4] 25)).alloc (.cells #[.slice A0 p.fr.length c0, .slice A1 p.bk.length c1, .slice (some ⟨w.heap.size + 1, 0, none⟩) 1 1] 22)) from ((Chg.refl _ _).alloc _).alloc _) gx)
    have hs := gx.size
    have hs0 : ((w1.alloc (.cells #[.slice A4 p.dr.length c4] 25)).alloc (.cells #[.slice A0 p.fr.length c0, .slice A1 p.bk.length c1, .slice (some ⟨w.heap.size + 1, 0, none⟩) 1 1] 22)).heap.size = w.heap.size + 3 := by simp [hz1]
    have hc0 : (w1.alloc (.cells #[.slice A4 p.dr.length c4] 25)).cell? ⟨w1.heap.size, 0, none⟩ = some (.slice A4 p.dr.length c4) := cell_new _ _ _ _
    have hf0 : (w1.alloc (.cells #[.slice A4 p.dr.length c4] 25)).frozen? ⟨w1.heap.size, 0, none⟩ = false := frozen_new _ _ _ _
    have g1 := (Chg.refl Nowhere (w1.alloc (.cells #[.slice A4 p.dr.length c4] 25))).alloc (.cells #[.slice A0 p.fr.length c0, .slice A1 p.bk.length c1, .slice (some ⟨w.heap.size + 1, 0, none⟩) 1 1] 22)
    rw [hz1] at hc0 hf0
    have k0 := Chg.cell (Chg.trans g1 gx) hc0 id
    have k1 := (Chg.frozen (Chg.trans g1 gx) hc0 id).trans hf0
    have hraw : Raw wx (fun _ => True) 1 (.slice (some ⟨w.heap.size + 2, 0, none⟩) 3 3) 3 [.slice A0 p.fr.length c0, .slice A1 p.bk.length c1, .slice (some ⟨w.heap.size + 1, 0, none⟩) 1 1] := by
      refine Raw.of_cells (n := 3) (k := 1) trivial (by omega) rfl (Nat.le_refl _) (by omega) fun t ht => ?_
      have hn := cell_new (w1.alloc (.cells #[.slice A4 p.dr.length c4] 25)) #[.slice A0 p.fr.length c0, .slice A1 p.bk.length c1, .slice (some ⟨w.heap.size + 1, 0, none⟩) 1 1] 22 t
      have hn2 := frozen_new (w1.alloc (.cells #[.slice A4 p.dr.length c4] 25)) #[.slice A0 p.fr.length c0, .slice A1 p.bk.length c1, .slice (some ⟨w.heap.size + 1, 0, none⟩) 1 1] 22 t
      rw [show (w1.alloc (.cells #[.slice A4 p.dr.length c4] 25)).heap.size = w.heap.size + 2 by simp [hz1]] at hn hn2
      have e : (#[.slice A0 p.fr.length c0, .slice A1 p.bk.length c1, .slice (some ⟨w.heap.size + 1, 0, none⟩) 1 1] : Array Value)[t]? = some ([.slice A0 p.fr.length c0, .slice A1 p.bk.length c1, .slice (some ⟨w.heap.size + 1, 0, none⟩) 1 1] : List Value)[t] := by
        have : t = 0 ∨ t = 1 ∨ t = 2 := by simp at ht; omega
        rcases this with rfl | rfl | rfl <;> rfl
      rw [e] at hn
      exact ⟨Chg.cell gx hn id, (Chg.frozen gx hn id).trans hn2⟩
    have ho := (IntSSV.one (M := Nowhere) k0 k1 (by omega) (H4.out.up gw) HD.out.1 HD.out.2).mono (M' := Nowhere) (H' := fun b => H b ∨ w.heap.size ≤ b) (L' := fun b => L b ∧ b < w.heap.size) (fun b _ h => h) (fun b _ h => .inr (by have h : b = w.heap.size + 1 := h; omega)) (fun b _ h => h)
    refine (concatLL_any wx (fun _ => True) Nowhere (fun b => H b ∨ w.heap.size ≤ b) (fun b => L b ∧ b < w.heap.size) (fun b h => by have := h.2; omega) _ _ [p.fr, p.bk, [p.dr]] rfl hraw (fun i u y hu hy => ?_) ?_).mono ?_
    · match i, hu, hy with
      | 0, hu, hy => obtain rfl := Option.some.inj hu; obtain rfl := Option.some.inj hy; exact H0.out.up gw
      | 1, hu, hy => obtain rfl := Option.some.inj hu; obtain rfl := Option.some.inj hy; exact H1.out.up gw
      | 2, hu, hy => obtain rfl := Option.some.inj hu; obtain rfl := Option.some.inj hy; exact ho
      | i + 3, hu, hy => simp at hu
    · have h1 := HF.out
      have h2 := HB.out
      simp [sumLL]
      omega
    · rintro e w' ⟨v, rfl, k, g⟩
      rw [lstM_eq] at k
      obtain ⟨A5, c5, rfl, h5, h6, -⟩ := k.shape
      exact ⟨A5, c5, rfl, Lib.hid k, Lib.hid ⟨h5, h6⟩, g⟩
  go_region_held3 (fun w' => w'.cell? ⟨bm, 2, none⟩ = some (.slice A0 p.fr.length c0) ∧ w'.cell? ⟨bm, 3, none⟩ = some (.slice A1 p.bk.length c1) ∧ w'.cell? ⟨bm, 6, none⟩ = some (.slice A4 p.dr.length c4))
      (first | (exact ⟨r2, r3, r6⟩) | (exact ⟨s2, s3, s6⟩) | (exact ⟨t2, t3, t6⟩) | (obtain ⟨p0, p1, p2⟩ : (World.cell? _ _ = _ ∧ World.cell? _ _ = _ ∧ World.cell? _ _ = _) := (by assumption); exact ⟨Chg.cell g5 p0 id, Chg.cell g5 p1 id, Chg.cell g5 p2 id⟩))
      (first | (go_at_call 113; refine (HCC.out _ (by repeat (first | exact Chg.refl _ _ | apply Chg.drew | apply Chg.drewN | refine Chg.alloc ?_ _))).mono ?_; rintro e w5 ⟨A5, c5, rfl, K5, hl5, g5⟩; have U5 := Lib.hid (show Up ((w1.alloc (.cells #[.slice A4 p.dr.length c4] 25)).alloc (.cells #[.slice A0 p.fr.length c0, .slice A1 p.bk.length c1, .slice (some ⟨w.heap.size + 1, 0, none⟩) 1 1] 22)) w5 from Chg.trans (by repeat (first | exact Chg.refl _ _ | apply Chg.drew | apply Chg.drewN | refine Chg.alloc ?_ _)) g5)))
  clear r2 r3 r6 s2 s3 s6 t2 t3 t6 HCC g5
  have UT := Lib.hid (Chg.trans U1.out (Chg.trans (show Up w1 ((w1.alloc (.cells #[.slice A4 p.dr.length c4] 25)).alloc (.cells #[.slice A0 p.fr.length c0, .slice A1 p.bk.length c1, .slice (some ⟨w.heap.size + 1, 0, none⟩) 1 1] 22)) from ((Chg.refl _ _).alloc _).alloc _) U5.out))
  have hz5 : w.heap.size + 3 ≤ w5.heap.size := by have h1 := U5.out.size; have h2 : ((w1.alloc (.cells #[.slice A4 p.dr.length c4] 25)).alloc (.cells #[.slice A0 p.fr.length c0, .slice A1 p.bk.length c1, .slice (some ⟨w.heap.size + 1, 0, none⟩) 1 1] 22)).heap.size = w.heap.size + 3 := by simp [HZ1.out]
                                                  omega
  have S5 := Lib.hid (S1.out.up (Chg.trans (show Up w1 ((w1.alloc (.cells #[.slice A4 p.dr.length c4] 25)).alloc (.cells #[.slice A0 p.fr.length c0, .slice A1 p.bk.length c1, .slice (some ⟨w.heap.size + 1, 0, none⟩) 1 1] 22)) from ((Chg.refl _ _).alloc _).alloc _) U5.out))
  have KZ := Lib.hid (show ((w1.alloc (.cells #[.slice A4 p.dr.length c4] 25)).alloc (.cells #[.slice A0 p.fr.length c0, .slice A1 p.bk.length c1, .slice (some ⟨w.heap.size + 1, 0, none⟩) 1 1] 22)).heap.size = w.heap.size + 3 by simp [HZ1.out])
  have Q5' := Lib.hid (Chg.cell UT.out Q5.out id)
  clear S1 U5 U1 hz1 Q2 Q3 Q6 H0 H1 H4
  have K6 := Lib.hid (K5.out.mono (M' := Nowhere) (H' := fun b => w.heap.size < b) (L' := fun b => b < w.heap.size) (fun b _ h => h) (fun b _ h => by have h1 := h.1; have h2 := KZ.out; exact Nat.lt_of_lt_of_le (by omega) (Nat.le_trans (Nat.le_of_eq h2.symm) h1)) (fun b _ h => h.2))
  clear K5 KZ
  go_wp2
  go_loopw [5, 7, 30] (fun _ _ n wr => ∃ i : Nat, i ≤ (lstM p).length ∧ n = .int .i64 i ∧ Hid (apartB (proc (lstM p) i 0) p.ls.length = true) ∧ Hid (SeenN wr w.heap.size p.ls.length (proc (lstM p) i 0)) ∧ Hid (Chg (fun b => b = w.heap.size) w5 wr)) (fun _ _ n _ => (lstM p).length - (intOf n).toNat)
  case atStart => exact ⟨0, by omega, rfl, by show Hid _; rw [proc_start]; exact Lib.hid (apart_nil _), by show Hid _; rw [proc_start]; exact S5, Chg.refl _ _⟩
  clear S5
  case round =>
    obtain ⟨i, hi, rfl, ha, hs, hu⟩ := hrel
    by_cases hlt : i < (lstM p).length
    · obtain ⟨b3, o3, c3', vs3, he3, -, -, -, hE3, hc3⟩ := (K6.out.keep hu.out (fun b hb => by rcases hb with h | h | h; exact h.elim; omega; omega)).at_ hlt
      obtain ⟨rfl, rfl⟩ : A5 = some ⟨b3, o3, none⟩ ∧ c5 = c3' := by simpa using he3
      obtain ⟨A7, k7, rfl, hv7, hl7, hk7⟩ := hE3.val
      have e0 := (hc3 0 _ rfl).1
      simp only [Nat.mul_one, Nat.add_zero] at e0
      have HV := Lib.hid hv7
      have HU := Lib.hid hu.out
      clear hc3 hv7 he3 hE3
      go_wp2
      go_loopw [7, 36] (fun _ n wx => ∃ k : Nat, k ≤ (lstM p)[i].length ∧ n = .int .i64 k ∧ Hid (apartB (proc (lstM p) i k) p.ls.length = true) ∧ Hid (SeenN wx w.heap.size p.ls.length (proc (lstM p) i k)) ∧ Hid (Chg (fun b => b = w.heap.size) wr wx)) (fun _ n _ => (lstM p)[i].length - (intOf n).toNat)
      case atStart => exact ⟨0, by omega, rfl, ha, hs, Chg.refl _ _⟩
      clear ha hs e0
      case round =>
        obtain ⟨k, hk, rfl, ha, hs, hu2⟩ := hrel
        have UU := Lib.hid (Chg.trans HU.out hu2.out)
        have q5 := Chg.cell UU.out Q5'.out (by show ¬ bm = w.heap.size; omega)
        by_cases hlt2 : k < (lstM p)[i].length
        · obtain ⟨b7, o7, rfl, -, hc7⟩ := (HV.out.keep hu2.out (fun b _ h => by show ¬ b = w.heap.size; omega)).ix hlt2
          have f1 := hc7 k hlt2
          rw [ix_eq hlt2] at f1
          clear hc7
          obtain ⟨z, hz⟩ := proc_split hlt hlt2
          rw [lstM_flat] at hz
          have HZ := Lib.hid hz
          clear hz
          by_cases hr : 0 ≤ (lstM p)[i][k] ∧ (lstM p)[i][k] < p.ls.length
          rotate_left
          · have HR := Lib.hid (inB_no (n := (lstM p)[i][k]) (lo := 0) (hi := (p.ls.length : Int) - 1) (by omega))
            have HB := Lib.hid (show apartB (lyingM p) p.ls.length = false by rw [HZ.out]; exact apart_rng hr)
            clear hr
            go_wp2_with fail
            refine (callS (within_any _ _ _ _) HR.out).mono ?_
            rintro e w' ⟨rfl, rfl⟩
            go_wp2
            go_ret
            exact ⟨ret_bool HB.out.symm, Chg.new UT.out UU.out (fun i hi => by show ¬ i = w.heap.size; omega)⟩
          have HR := Lib.hid (inB_yes (n := (lstM p)[i][k]) (lo := 0) (hi := (p.ls.length : Int) - 1) (by omega))
          obtain ⟨t, ht⟩ : ∃ t : Nat, (lstM p)[i][k] = t := ⟨((lstM p)[i][k]).toNat, by omega⟩
          have htn : t < p.ls.length := by omega
          obtain ⟨s1, s2⟩ := hs.out t htn
          have HT := Lib.hid ht
          rw [ht] at f1 HR
          clear ht hr
          by_cases hm : (t : Int) ∈ proc (lstM p) i k
          · rw [decide_eq_true hm] at s1
            have HB := Lib.hid (show apartB (lyingM p) p.ls.length = false by rw [HZ.out]; exact apart_mem (by rw [HT.out]; exact hm))
            clear hm
            go_wp2_with fail
            refine (callS (within_any _ _ _ _) HR.out).mono ?_
            rintro e w' ⟨rfl, rfl⟩
            go_wp2
            go_ret
            exact ⟨ret_bool HB.out.symm, Chg.new UT.out UU.out (fun i hi => by show ¬ i = w.heap.size; omega)⟩
          · rw [decide_eq_false hm] at s1
            have HN := Lib.hid (show apartB (proc (lstM p) i (k + 1)) p.ls.length = true by rw [proc_next hlt hlt2, HT.out]; exact apart_yes ha.out (by omega) hm)
            have HS := Lib.hid (show SeenN _ w.heap.size p.ls.length (proc (lstM p) i (k + 1)) by rw [proc_next hlt hlt2, HT.out]; exact hs.out.next rfl htn)
            clear hm
            go_wp2_with fail
            refine (callS (within_any _ _ _ _) HR.out).mono ?_
            rintro e w' ⟨rfl, rfl⟩
            go_wp2
            go_roundw
            case rel => exact ⟨k + 1, by omega, by go_num, HN.out, HS.out, Chg.setCell hu2.out (.inl rfl) _⟩
            case measure => first | (simp [intOf]; done) | (simp [intOf]; omega)
        · obtain rfl : k = (lstM p)[i].length := by omega
          have hb5 := hl5.out
          go_wp2
          go_roundw
          case rel => exact ⟨i + 1, by omega, by go_num, by show Hid _; rw [proc_row hlt]; exact ha, by show Hid _; rw [proc_row hlt]; exact hs, UU.out⟩
          case measure => first | (simp [intOf]; done) | (simp [intOf]; omega)
    · obtain rfl : i = (lstM p).length := by omega
      have HB := Lib.hid (show apartB (lyingM p) p.ls.length = true by have := ha.out; rwa [proc_end, lstM_flat] at this)
      go_wp2
      go_ret
      exact ⟨ret_bool HB.out.symm, Chg.new UT.out hu.out (fun i hi => by show ¬ i = w.heap.size; omega)⟩
end Go.Proofs.Ytchfjglofmphfaa
