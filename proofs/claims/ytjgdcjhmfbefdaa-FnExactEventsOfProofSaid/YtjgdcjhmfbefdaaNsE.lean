/- The laws' helpers on nested slices. No condition. -/
import Derived.Test.YtjgdcjhmfbefdaaNs
import Derived.Test.YtjgdcjhmfbefdaaCopyE
set_option linter.unusedSimpArgs false
set_option linter.unusedVariables false
set_option maxRecDepth 100000
set_option maxHeartbeats 1000000
namespace Go.Proofs.Ytjgdcjhmfbefdaa
open Go.ChangeShapes Go.WideShapes Go.ChangeAt Go.RowKit
def EvsE (L : Nat → Prop) (w : World) (vs : List Value) (x : List EvM) : Prop := ∃ A c, vs = [.slice A x.length c] ∧ Evs w L (.slice A x.length c) x ∧ x.length ≤ c ∧ c ≤ 9223372036854775807
theorem EvsE.val {L : Nat → Prop} {w : World} {vs : List Value} {x : List EvM} (h : EvsE L w vs x) : ∃ A c, vs = [.slice A x.length c] ∧ Evs w L (.slice A x.length c) x ∧ x.length ≤ c ∧ c ≤ 9223372036854775807 := h
theorem EvsE.keep {L T : Nat → Prop} {w w' : World} {vs : List Value} {x : List EvM} (h : EvsE L w vs x) (g : Chg T w w') (hd : ∀ b, b < w.heap.size → L b → ¬ T b) : EvsE L w' vs x := let ⟨A, c, h1, h2, h3⟩ := h; ⟨A, c, h1, h2.keep g hd, h3⟩
theorem EvsE.up {L : Nat → Prop} {w w' : World} {vs : List Value} {x : List EvM} (h : EvsE L w vs x) (g : Up w w') : EvsE L w' vs x := h.keep g fun _ _ _ h => h
theorem EvsE.mono {L T : Nat → Prop} {w : World} {vs : List Value} {x : List EvM} (h : EvsE L w vs x) (hs : ∀ b, b < w.heap.size → L b → T b) : EvsE T w vs x := let ⟨A, c, h1, h2, h3⟩ := h; ⟨A, c, h1, h2.mono hs, h3⟩
def EvSV (w : World) (M H L : Nat → Prop) (v : Value) (xs : List (List EvM)) : Prop := Nst 1 (EvsE L) w H v xs
theorem EvSV.keep {M H L T : Nat → Prop} {w w' : World} {v : Value} {xs : List (List EvM)} (h : EvSV w M H L v xs) (g : Chg T w w') (hd : ∀ b, M b ∨ H b ∨ L b → ¬ T b) : EvSV w' M H L v xs :=
  Nst.keep h (fun _ _ k => EvsE.keep k g (fun b _ h => hd b (.inr (.inr h)))) g (fun b _ h => hd b (.inr (.inl h)))
theorem EvSV.up {M H L : Nat → Prop} {w w' : World} {v : Value} {xs : List (List EvM)} (h : EvSV w M H L v xs) (g : Up w w') : EvSV w' M H L v xs := h.keep g fun _ _ h => h
theorem EvSV.mono {M H L M' H' L' : Nat → Prop} {w : World} {v : Value} {xs : List (List EvM)} (h : EvSV w M H L v xs) (hm : ∀ b, b < w.heap.size → M b → M' b) (hr : ∀ b, b < w.heap.size → H b → H' b) (hl : ∀ b, b < w.heap.size → L b → L' b) : EvSV w M' H' L' v xs :=
  Nst.mono h (fun _ _ k => EvsE.mono k hl) hr
theorem EvSV.shape {M H L : Nat → Prop} {w : World} {v : Value} {xs : List (List EvM)} (h : EvSV w M H L v xs) : ∃ A c, v = .slice A xs.length c ∧ xs.length ≤ c ∧ c ≤ 9223372036854775807 ∧ (A = none → c = 0) := Nst.shape h
theorem EvSV.at_ {M H L : Nat → Prop} {w : World} {v : Value} {xs : List (List EvM)} (h : EvSV w M H L v xs) {i : Nat} (hi : i < xs.length) : ∃ b o c vs, v = .slice (some ⟨b, o, none⟩) xs.length c ∧ H b ∧ b < w.heap.size ∧ vs.length = 1 ∧ EvsE L w vs xs[i] ∧
    ∀ j u, vs[j]? = some u → w.cell? ⟨b, o + i * 1 + j, none⟩ = some u ∧ w.frozen? ⟨b, o + i * 1 + j, none⟩ = false := Nst.at_ h hi
theorem szEvSV_ok (w : World) (M H L : Nat → Prop) (v : Value) (xs : List (List EvM)) (k : Int) (hk : 0 ≤ k ∧ k ≤ 1048576) (hl : (szF List.length xs : Int) ≤ k) (h : EvSV w M H L v xs) :
    Calls Try.prog 51 #[v, .int .i64 k] w fun e w' => e = .returned (.int .i64 (k - szF List.length xs)) ∧ Up w w' := by
  obtain ⟨A, c, rfl, hlc, hcm, -⟩ := h.shape
  have H := Lib.hid h
  have HC : Hid (szF List.length xs = xs.length + cntF List.length xs xs.length) := Lib.hid rfl
  have HL := Lib.hid hl
  clear h hl
  have hd : decide (k - (xs.length : Int) < 0) = false := decide_eq_false (by have := HL.out; have := HC.out; omega)
  go_enter Try.func51, Try.ntmps51
  go_wp2
  go_loopw [1, 5] (fun q i wr => ∃ (j : Nat), j ≤ xs.length ∧ i = .int .i64 j ∧ q = .int .i64 (k - xs.length - cntF List.length xs j) ∧ Hid (0 ≤ k - xs.length - cntF List.length xs j) ∧ Hid (Up w wr)) (fun _ i _ => xs.length - (intOf i).toNat)
  case atStart => exact ⟨0, by omega, rfl, by simp [cntF], Lib.hid (by have := HL.out; have := HC.out; simp [cntF]; omega), Chg.refl _ _⟩
  case round =>
    obtain ⟨j, hj, rfl, rfl, hp, hu⟩ := hrel
    by_cases hlt : j < xs.length
    · have HS := Lib.hid (cntF_succ (f := List.length) hlt)
      have HM := Lib.hid (cntF_le (f := List.length) (xs := xs) (show j + 1 ≤ xs.length by omega))
      obtain ⟨b3, o3, c3', vs3, he3, -, -, -, hE3, hc3⟩ := (H.out.up hu.out).at_ hlt
      obtain ⟨rfl, rfl⟩ : A = some ⟨b3, o3, none⟩ ∧ c = c3' := by simpa using he3
      obtain ⟨A3, k3, rfl, hv3, -⟩ := EvsE.val hE3
      have f0 := (hc3 0 _ rfl).1
      simp only [Nat.mul_one, Nat.add_zero] at f0
      have HV3 := Lib.hid hv3
      clear hc3 hv3 he3
      obtain ⟨q, hq⟩ : ∃ q, q = k - (xs.length : Int) - cntF List.length xs j := ⟨_, rfl⟩
      rw [← hq] at hp ⊢
      have HQ := Lib.hid hq
      have HB : Hid (0 ≤ q ∧ q ≤ 1048576) := Lib.hid (by have := hp.out; omega)
      clear hq
      have HX : Hid ((xs[j].length : Int) ≤ q) := Lib.hid (by have h1 := HS.out; have h2 := HM.out; have h3 := HL.out; have h4 := HC.out; have h5 := HQ.out; omega)
      go_wp2_with fail
      with_reducible refine (szEvs_ok _ _ _ _ _ HB.out HX.out HV3.out).mono ?_
      rintro e w1 ⟨rfl, g1⟩
      have G1 := Lib.hid (Chg.trans hu.out (Up.of_eq g1))
      have hd2 : decide (q - (xs[j].length : Int) < 0) = false := decide_eq_false (by have := HX.out; omega)
      clear f0 g1
      go_wp2
      go_roundw
      case rel => exact ⟨j + 1, by omega, by go_num, by rw [HS.out, HQ.out]; congr 1; omega, Lib.hid (by have h1 := HS.out; have h2 := HQ.out; have h3 := HX.out; omega), G1.out⟩
      case measure => first | (simp [intOf]; done) | (simp [intOf]; omega)
    · obtain rfl : j = xs.length := by omega
      go_wp2
      go_ret
      exact ⟨ret_int (by rw [HC.out]; omega), hu.out⟩
theorem szEvSV_no (w : World) (M H L : Nat → Prop) (v : Value) (xs : List (List EvM)) (k : Int) (hk : 0 ≤ k ∧ k ≤ 1048576) (hl : k < (szF List.length xs : Int)) (h : EvSV w M H L v xs) :
    Calls Try.prog 51 #[v, .int .i64 k] w fun e w' => e = .returned (.int .i64 (-1)) ∧ Up w w' := by
  obtain ⟨A, c, rfl, hlc, hcm, -⟩ := h.shape
  have H := Lib.hid h
  have HC : Hid (szF List.length xs = xs.length + cntF List.length xs xs.length) := Lib.hid rfl
  have HL := Lib.hid hl
  clear h hl
  by_cases h0 : k < (xs.length : Int)
  · have hd : decide (k - (xs.length : Int) < 0) = true := decide_eq_true (by omega)
    go_enter Try.func51, Try.ntmps51
    go_wp2
    go_ret
    exact ⟨rfl, Chg.refl _ _⟩
  have hd : decide (k - (xs.length : Int) < 0) = false := decide_eq_false (by have := HL.out; have := HC.out; omega)
  go_enter Try.func51, Try.ntmps51
  go_wp2
  go_loopw [1, 5] (fun q i wr => ∃ (j : Nat), j ≤ xs.length ∧ i = .int .i64 j ∧ q = .int .i64 (k - xs.length - cntF List.length xs j) ∧ Hid (0 ≤ k - xs.length - cntF List.length xs j) ∧ Hid (Up w wr)) (fun _ i _ => xs.length - (intOf i).toNat)
  case atStart => exact ⟨0, by omega, rfl, by simp [cntF], Lib.hid (by have := HL.out; have := HC.out; simp [cntF]; omega), Chg.refl _ _⟩
  case round =>
    obtain ⟨j, hj, rfl, rfl, hp, hu⟩ := hrel
    by_cases hlt : j < xs.length
    · have HS := Lib.hid (cntF_succ (f := List.length) hlt)
      have HM := Lib.hid (cntF_le (f := List.length) (xs := xs) (show j + 1 ≤ xs.length by omega))
      obtain ⟨b3, o3, c3', vs3, he3, -, -, -, hE3, hc3⟩ := (H.out.up hu.out).at_ hlt
      obtain ⟨rfl, rfl⟩ : A = some ⟨b3, o3, none⟩ ∧ c = c3' := by simpa using he3
      obtain ⟨A3, k3, rfl, hv3, -⟩ := EvsE.val hE3
      have f0 := (hc3 0 _ rfl).1
      simp only [Nat.mul_one, Nat.add_zero] at f0
      have HV3 := Lib.hid hv3
      clear hc3 hv3 he3
      obtain ⟨q, hq⟩ : ∃ q, q = k - (xs.length : Int) - cntF List.length xs j := ⟨_, rfl⟩
      rw [← hq] at hp ⊢
      have HQ := Lib.hid hq
      have HB : Hid (0 ≤ q ∧ q ≤ 1048576) := Lib.hid (by have := hp.out; omega)
      clear hq
      by_cases hx : (xs[j].length : Int) ≤ q
      rotate_left
      · have HX : Hid (q < (xs[j].length : Int)) := Lib.hid (by omega)
        clear hx
        go_wp2_with fail
        with_reducible refine (szEvs_no _ _ _ _ _ HB.out HX.out HV3.out).mono ?_
        rintro e w1 ⟨rfl, g1⟩
        have G1 := Lib.hid (Chg.trans hu.out (Up.of_eq g1))
        have hd2 : decide ((-1 : Int) < 0) = true := rfl
        clear f0 g1
        go_wp2
        go_ret
        exact ⟨by simp, G1.out⟩
      have HX := Lib.hid hx
      clear hx
      go_wp2_with fail
      with_reducible refine (szEvs_ok _ _ _ _ _ HB.out HX.out HV3.out).mono ?_
      rintro e w1 ⟨rfl, g1⟩
      have G1 := Lib.hid (Chg.trans hu.out (Up.of_eq g1))
      have hd2 : decide (q - (xs[j].length : Int) < 0) = false := decide_eq_false (by have := HX.out; omega)
      clear f0 g1
      go_wp2
      go_roundw
      case rel => exact ⟨j + 1, by omega, by go_num, by rw [HS.out, HQ.out]; congr 1; omega, Lib.hid (by have h1 := HS.out; have h2 := HQ.out; have h3 := HX.out; omega), G1.out⟩
      case measure => first | (simp [intOf]; done) | (simp [intOf]; omega)
    · obtain rfl : j = xs.length := by omega
      exact absurd hp.out (by have := HL.out; have := HC.out; omega)
theorem infoEvSV : (Try.prog.info? 49).map (fun i => (i.zero, i.size, i.bytes)) = some (some (.slice none 0 0), 1, 24) := by kernel_rfl
theorem toEvSV_any (w : World) (M H L : Nat → Prop) (v : Value) (xs : List (List EvM)) (hb : szF List.length xs ≤ 1048576) (h : EvSV w M H L v xs) :
    Calls Try.prog 55 #[v] w fun e w' => ∃ u M' H' L', e = .returned u ∧ Apart3 w.heap.size w'.heap.size M' H' L' ∧ EvSV w' M' H' L' u xs ∧ Up w w' := by
  obtain ⟨A, c, rfl, hlc, hcm, -⟩ := h.shape
  have H := Lib.hid h
  have hbl : xs.length ≤ 1048576 := by unfold szF at hb; omega
  have HB := Lib.hid hb
  clear h hb
  obtain ⟨i0, hi, hz0, hz1, hz2⟩ := info_parts infoEvSV
  have hmk : ∀ u : World, (Instr.makeSlice 29 (.int .i64 (xs.length : Int)) (.int .i64 (xs.length : Int))).run Try.prog u =
      .ok (.slice (some ⟨u.heap.size, 0, none⟩) xs.length xs.length) (u.alloc (.cells (madeCells #[Value.slice none 0 0] (xs.length * 1)) 49)) := fun u => by
    have h := run_make (P := Try.prog) u 29 49 i0 (.slice none 0 0) Try.underlying29 hi hz0 .i64 .i64 (xs.length : Int) (xs.length : Int) (by omega) (Int.le_refl _) (by rw [hz2]; omega) (by omega)
    simpa [hz1, Value.cells] using h
  go_enter Try.func55, Try.ntmps55
  go_wp2
  have Hi := Lib.hid hmk
  clear hmk hi hz0 hz1 hz2
  go_loopw [4] (fun i wr => ∃ (j : Nat) (cs : List Value), j ≤ xs.length ∧ i = .int .i64 j ∧ Hid (Up w wr) ∧ w.heap.size < wr.heap.size ∧ Hid (Copying wr w.heap.size 1 xs.length j cs) ∧ Hid (ChunkIn 1 (EvsE (fun b => w.heap.size < b)) wr cs xs j)) (fun i _ => xs.length - (intOf i).toNat)
  case atStart => exact ⟨0, [], by omega, rfl, (Chg.refl _ _).alloc _, by simp, Copying.start _ _ _ _ _ _ (by simp [size_madeCells]), ChunkIn.start⟩
  case round =>
    obtain ⟨j, cs, hj, rfl, hg, hsz, hcs, hin⟩ := hrel
    by_cases hlt : j < xs.length
    · have HBJ : Hid (cntEvs xs[j] ≤ 8388608) := Lib.hid (by have h1 := szF_at (f := List.length) hlt; have h3 := HB.out; unfold cntEvs; omega)
      obtain ⟨b3, o3, c3', vs3, he3, -, -, -, hE3, hc3⟩ := (H.out.up hg.out).at_ hlt
      obtain ⟨rfl, rfl⟩ : A = some ⟨b3, o3, none⟩ ∧ c = c3' := by simpa using he3
      obtain ⟨A3, k3, rfl, hv3, -⟩ := EvsE.val hE3
      have f0 := (hc3 0 _ rfl).1
      simp only [Nat.mul_one, Nat.add_zero] at f0
      have HV3 := Lib.hid hv3
      clear hc3 hv3 he3
      go_wp2_with fail
      with_reducible refine (toEvs _ _ _ xs[j] HBJ.out HV3.out).mono ?_
      rintro e w2 ⟨u, rfl, k2, g2⟩
      obtain ⟨A4, k4, rfl, hl4, hc4, -⟩ := k2.shape
      have hcs := Lib.hid (Copying.up hcs.out g2)
      have hin := Lib.hid (ChunkIn.keep (E' := EvsE (fun b => w.heap.size < b)) hin.out (fun _ _ h => EvsE.up h g2))
      have HG := Lib.hid (Chg.trans hg.out g2)
      have K4 := Lib.hid (k2.mono (T := fun b => w.heap.size < b) (fun b _ hb => by have := hb.1; omega))
      have hsz2 := Nat.lt_of_lt_of_le hsz g2.size
      clear g2 k2 f0
      obtain ⟨u0, x0, q0⟩ := hcs.out.cell hlt 0 (by omega)
      simp only [Nat.mul_one, Nat.add_zero] at x0 q0
      go_wp2
      go_roundw
      case rel =>
        exact ⟨j + 1, cs ++ [.slice A4 xs[j].length k4], by omega, by go_num, HG.out.setCell (.inr (Nat.le_refl _)) _, by simpa [World.setCell] using hsz2, Lib.hid (Copying.next1 hcs.out hlt hin.out.1 _), Lib.hid (ChunkIn.keep (E' := EvsE (fun b => w.heap.size < b)) (ChunkIn.next hin.out hlt rfl (vs := [.slice A4 xs[j].length k4]) ⟨A4, k4, rfl, K4.out, hl4, hc4⟩) (fun _ _ h => EvsE.keep h (T := fun b => b = w.heap.size) (Chg.setCell (Chg.refl (fun b => b = w.heap.size) _) (p := ⟨w.heap.size, j, none⟩) (.inl rfl) _) (fun b _ h1 h2 => by have h2 : b = w.heap.size := h2; omega)))⟩
      case measure => first | (simp [intOf]; done) | (simp [intOf]; omega)
    · obtain rfl : j = xs.length := by omega
      go_wp2
      go_ret
      exact ⟨_, _, _, _, rfl, Apart3.row (Nat.le_refl _) hsz, (Nst.done (R := fun b => b = w.heap.size) hcs.out hin.out rfl hsz (by omega)).mono (fun vs x h => EvsE.mono h fun b h1 h2 => ⟨h2, h1⟩) (fun _ _ h => h), hg.out⟩
theorem eqEvSV_same (w : World) (M H L M' H' L' : Nat → Prop) (v u : Value) (xs : List (List EvM)) (h : EvSV w M H L v xs) (h2 : EvSV w M' H' L' u xs) :
    Calls Try.prog 62 #[v, u] w fun e w' => e = .returned (.bool true) ∧ Up w w' := by
  obtain ⟨A, c, rfl, hlc, hcm, -⟩ := h.shape
  obtain ⟨A2, c2, rfl, hlc2, hcm2, -⟩ := h2.shape
  have H := Lib.hid h
  have H2 := Lib.hid h2
  clear h h2
  go_enter Try.func62, Try.ntmps62
  go_wp2
  go_loopw [5] (fun i wr => ∃ (j : Nat), j ≤ xs.length ∧ i = .int .i64 j ∧ Hid (Up w wr)) (fun i _ => xs.length - (intOf i).toNat)
  case atStart => exact ⟨0, by omega, rfl, Chg.refl _ _⟩
  case round =>
    obtain ⟨j, hj, rfl, hu⟩ := hrel
    by_cases hlt : j < xs.length
    · obtain ⟨b3, o3, c3', vs3, he3, -, -, -, hE3, hc3⟩ := (H.out.up hu.out).at_ hlt
      obtain ⟨rfl, rfl⟩ : A = some ⟨b3, o3, none⟩ ∧ c = c3' := by simpa using he3
      obtain ⟨A3, k3, rfl, hv3, -⟩ := EvsE.val hE3
      have f0 := (hc3 0 _ rfl).1
      simp only [Nat.mul_one, Nat.add_zero] at f0
      have HV3 := Lib.hid hv3
      clear hc3 hv3 he3
      obtain ⟨b5, o5, c5', vs5, he5, -, -, -, hE5, hc5⟩ := (H2.out.up hu.out).at_ hlt
      obtain ⟨rfl, rfl⟩ : A2 = some ⟨b5, o5, none⟩ ∧ c2 = c5' := by simpa using he5
      obtain ⟨A5, k5, rfl, hv5, -⟩ := EvsE.val hE5
      have e0 := (hc5 0 _ rfl).1
      simp only [Nat.mul_one, Nat.add_zero] at e0
      have HV5 := Lib.hid hv5
      clear hc5 hv5 he5
      go_wp2
      have qf0 := up_cell f0
      have qe0 := up_cell e0
      clear f0 e0
      refine wp_region_up (by kernel_rfl) (by kernel_rfl) ?_
      repeat (go_big_quiet_step (first | (go_at_call 22; with_reducible exact calls_up (eqEvs _ _ _ _ _ _ (HV3.out.up (UpOf.up _)) (HV5.out.up (UpOf.up _))))))
      refine wpQuiet_nil ?_
      rintro _ ⟨u, rfl⟩
      go_wp2
      go_roundw
      case rel => exact ⟨j + 1, by omega, by go_num, Lib.hid (Chg.trans hu.out u.up)⟩
      case measure => first | (simp [intOf]; done) | (simp [intOf]; omega)
    · obtain rfl : j = xs.length := by omega
      go_wp2
      go_ret
      exact ⟨rfl, hu.out⟩
end Go.Proofs.Ytjgdcjhmfbefdaa
