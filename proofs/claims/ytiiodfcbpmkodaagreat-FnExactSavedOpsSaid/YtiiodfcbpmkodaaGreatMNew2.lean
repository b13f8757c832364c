/- The reference makes an empty machine. No condition. -/
import Derived.Test.YtiiodfcbpmkodaaGreatMNew
import Derived.Test.YtiiodfcbpmkodaaGreatMSp1
set_option linter.unusedSimpArgs false
set_option linter.unusedVariables false
set_option maxRecDepth 100000
set_option maxHeartbeats 8000000
namespace Go.Proofs.YtiiodfcbpmkodaaGreat
open Go.ChangeShapes Go.WideShapes Go.ChangeAt Go.RowKit
attribute [local go_sem ↓] Go.wp_at_zero Go.wp_at_succ
/-- 'out = append(out, list)' on a row of lists -/
theorem wp_append_lst {w : World} {ops : Array Oper} {rest : List Oper} {o : Oper} {a : Act} {Q : Exit → Act → World → Prop} (hgd : o.guard = none) (s x : Operand)
    (ho : o.op = .call { callee := .builtin .append, args := #[s, x], argTypes := #[56, 56] })
    (v : Value) (fs : List Value) (hs : a.eval s = v) (hown : w.ownsRow 0 34 1 v fs.length fs)
    (g : Nat) (u : Value) (hx : a.eval x = .slice (some ⟨g, 0, none⟩) 1 1) (hc : w.cell? ⟨g, 0, none⟩ = some u) (hu : u.oneCell' = true) (hlen : fs.length ≤ 1000000)
    (h : ∀ v' w', w'.ownsRow 0 34 1 v' (fs.length + 1) (fs ++ [u]) → Chg (fun b => v.ownBlock = some b) w w' → (∀ b, v'.ownBlock = some b → v.ownBlock = some b ∨ w.heap.size ≤ b) → wpList Tryz.prog ops Q rest (a.put o.dst v') w') : wpList Tryz.prog ops Q (o :: rest) a w := by
  obtain ⟨i0, hi, hz0, hz1, hz2⟩ := info_parts infoLst
  refine wpList_append_own2 (P := Tryz.prog) hgd s x 56 ho 0 34 i0 (.slice none 0 0) 1 24 Tryz.underlying56 hi hz0 hz1 hz2 rfl (by decide) v fs.length _ hs hown ⟨g, 0, none⟩ 1 1 [u] hx rfl ?_ ?_ ?_ ?_ (Nat.zero_le _) ?_
  · intro j r hr
    cases j with
    | zero => simp only [List.getElem?_cons_zero, Option.some.injEq] at hr; subst hr; rw [add_zero]; exact hc
    | succ j => simp at hr
  · intro r hr; simp at hr; subst hr; exact hu
  · unfold Go.maxLen; omega
  · omega
  · intro v' w' k1 k2 k3
    exact h v' w' k1 (Chg.of_grown k2) k3
def halfM (n : Int) (i j : Nat) : MachM := ⟨n, 0, List.replicate i [], List.replicate j [], List.replicate 4 (false, 0), 0⟩
theorem halfM_all (n : Nat) : halfM n n n = newM n := by simp [halfM, newM]
theorem halfF (n : Int) (i j : Nat) : ({ halfM n i j with fr := (halfM n i j).fr ++ [[]] } : MachM) = halfM n (i + 1) j := by simp [halfM, List.replicate_succ']
theorem halfB (n : Int) (i j : Nat) : ({ halfM n i j with bk := (halfM n i j).bk ++ [[]] } : MachM) = halfM n i (j + 1) := by simp [halfM, List.replicate_succ']
theorem half_start {w : World} {S : Nat → Prop} (n : Nat) {c : Nat} (hc : w.heap[c]? = some (.cells (madeCells #[.bool false, .int .i64 0] 8) 96)) (sc : S c) :
    MachV w S 0 (halfM n 0 0) (.slice none 0 0) (.slice none 0 0) (.slice (some ⟨c, 0, none⟩) 4 4) (.slice none 0 0) (.slice none 0 0) [] [] := by
  have nil1 : OwnI w 0 (.slice none 0 0) [] := ⟨⟨by simp, .inl ⟨rfl, rfl⟩⟩, by simp⟩
  have hnil : ∀ v : Value, Off2 v (.slice none 0 0) := fun v g _ h => by simp [Value.ownBlock] at h
  refine ⟨⟨by simp, .inl ⟨rfl, rfl⟩⟩, ⟨by simp, .inl ⟨rfl, rfl⟩⟩, by simp [halfM], by simp [halfM], fun i h => by simp at h, fun i h => by simp at h, ?_, ⟨[], rfl, .inl ⟨rfl, rfl⟩⟩, ⟨[], nil1, by simp⟩, ?_, ?_⟩
  · refine ⟨by simp [halfM, carCells], .inr ⟨c, 4, _, by simp [halfM], Nat.zero_le _, hc, by simp [halfM], by unfold Go.maxLen; omega, by simp [madeCells], ?_⟩⟩
    simp [halfM, carCells, madeCells]
    rfl
  · intro v hv g hg
    simp only [List.mem_cons, List.nil_append, List.not_mem_nil, or_false] at hv
    rcases hv with rfl | rfl | rfl | rfl | rfl <;> simp [Value.ownBlock] at hg <;> subst hg <;> assumption
  · refine List.pairwise_cons.2 ⟨fun v hv => (hnil v).symm, List.pairwise_cons.2 ⟨fun v hv => (hnil v).symm, List.pairwise_cons.2 ⟨fun v hv => ?_, List.pairwise_cons.2 ⟨fun v hv => (hnil v).symm, List.pairwise_cons.2 ⟨fun v hv => (hnil v).symm, by simp⟩⟩⟩⟩⟩
    simp only [List.mem_cons, List.nil_append, List.not_mem_nil, or_false] at hv
    rcases hv with rfl | rfl <;> exact hnil _
theorem ownI_nil {w : World} {g : Nat} (h : w.heap[g]? = some (.cells #[] 2)) : OwnI w 0 (.slice (some ⟨g, 0, none⟩) 0 0) [] :=
  ⟨⟨rfl, .inr ⟨g, 0, _, rfl, Nat.zero_le _, h, Nat.le_refl _, by unfold Go.maxLen; omega, by simp, by simp⟩⟩, by simp⟩
theorem l07New_any (w : World) (n : Nat) (hn : 1 ≤ n ∧ n ≤ 24) :
    Calls Tryz.prog 29 #[.int .i64 n] w fun e w' => ∃ F B C fs bs, e = .returned (machVal (newM n) F B C (.slice none 0 0) (.slice none 0 0)) ∧ MachV w' (fun b => w.heap.size < b) 0 (newM n) F B C (.slice none 0 0) (.slice none 0 0) fs bs ∧ Up w w' := by
  have h2 := mk_cars
  go_enter Tryz.func29, Tryz.ntmps29
  go_wp2
  clear h2
  go_loopw [4] (fun i wr => ∃ j : Nat, j ≤ n ∧ i = .int .i64 j ∧ Hid (∃ F B C fs bs, MachX wr (fun b => w.heap.size < b) 0 (w.heap.size + 1 + 1) (halfM n j j) F B C (.slice none 0 0) (.slice none 0 0) fs bs) ∧ Hid (Up (w.alloc (.cells #[.int .i64 0, .int .i64 0, .slice none 0 0, .slice none 0 0, .slice none 0 0, .slice none 0 0, .slice none 0 0] 60)) wr) ∧ w.heap.size + 2 < wr.heap.size) (fun i _ => n - (intOf i).toNat)
  case atStart =>
    have hcar : (w.alloc (.cells #[.int .i64 0, .int .i64 0, .slice none 0 0, .slice none 0 0, .slice none 0 0, .slice none 0 0, .slice none 0 0] 60)).heap.size = w.heap.size + 1 := by simp
    have hv := half_start (w := ((w.alloc (.cells #[.int .i64 0, .int .i64 0, .slice none 0 0, .slice none 0 0, .slice none 0 0, .slice none 0 0, .slice none 0 0] 60)).alloc (.cells (madeCells #[.bool false, .int .i64 0] 8) 96))) (S := (fun b => w.heap.size < b)) n (c := w.heap.size + 1) (heap_new (by simp)) (Nat.lt_succ_self _)
    have hx := hv.box (fun b hb => by simp at hb; show w.heap.size < b; omega) 60
    refine ⟨0, by omega, rfl, ⟨.slice none 0 0, .slice none 0 0, .slice (some ⟨w.heap.size + 1, 0, none⟩) 4 4, [], [], ?_⟩, ((Chg.refl Nowhere _).alloc _).alloc _, by simp⟩
    simpa [halfM] using hx
  case round =>
    obtain ⟨j, hj, rfl, HX, HU, hsz⟩ := hrel
    obtain ⟨F, B, C, fs, bs, hX⟩ := HX.out
    clear HX
    have hS0 : NewIn (fun b => w.heap.size < b) wr := fun b hb => by show w.heap.size < b; omega
    by_cases hlt : j < n
    rotate_left
    · obtain rfl : n = j := by omega
      obtain ⟨A1, d1, rfl, -⟩ := ownsRow_shape hX.f
      obtain ⟨A2, d2, rfl, -⟩ := ownsRow_shape hX.b
      obtain ⟨A3, d3, rfl, -⟩ := ownsRow_shape hX.c
      rw [halfM_all] at hX
      have hV := Lib.hid hX.val
      have HU2 := Lib.hid HU.out
      have k0 : wr.cell? ⟨(w.heap.size + 1 + 1), 0, none⟩ = some (.int .i64 n) := hX.c0.1
      have k1 : wr.cell? ⟨(w.heap.size + 1 + 1), 1, none⟩ = some (.int .i64 0) := hX.c1.1
      have k2 : wr.cell? ⟨(w.heap.size + 1 + 1), 2, none⟩ = some (.slice A1 fs.length d1) := hX.c2.1
      have k3 : wr.cell? ⟨(w.heap.size + 1 + 1), 3, none⟩ = some (.slice A2 bs.length d2) := hX.c3.1
      have k4 : wr.cell? ⟨(w.heap.size + 1 + 1), 4, none⟩ = some (.slice A3 4 d3) := hX.c4.1
      have k5 : wr.cell? ⟨(w.heap.size + 1 + 1), 5, none⟩ = some (.slice none 0 0) := hX.c5.1
      have k6 : wr.cell? ⟨(w.heap.size + 1 + 1), 6, none⟩ = some (.slice none 0 0) := hX.c6.1
      have hz0 : (w.alloc (.cells #[.int .i64 0, .int .i64 0, .slice none 0 0, .slice none 0 0, .slice none 0 0, .slice none 0 0, .slice none 0 0] 60)).heap.size = w.heap.size + 1 := by simp
      have z0 : wr.cell? ⟨w.heap.size, 0, none⟩ = some (.int .i64 0) := Chg.cell HU2.out (cell_new _ _ _ _) id
      have y0 : wr.frozen? ⟨w.heap.size, 0, none⟩ = false := (Chg.frozen HU2.out (show (w.alloc (.cells #[.int .i64 0, .int .i64 0, .slice none 0 0, .slice none 0 0, .slice none 0 0, .slice none 0 0, .slice none 0 0] 60)).cell? ⟨w.heap.size, 0, none⟩ = some (.int .i64 0) from cell_new _ _ _ _) id).trans (frozen_new _ _ _ _)
      have z1 : wr.cell? ⟨w.heap.size, 1, none⟩ = some (.int .i64 0) := Chg.cell HU2.out (cell_new _ _ _ _) id
      have y1 : wr.frozen? ⟨w.heap.size, 1, none⟩ = false := (Chg.frozen HU2.out (show (w.alloc (.cells #[.int .i64 0, .int .i64 0, .slice none 0 0, .slice none 0 0, .slice none 0 0, .slice none 0 0, .slice none 0 0] 60)).cell? ⟨w.heap.size, 1, none⟩ = some (.int .i64 0) from cell_new _ _ _ _) id).trans (frozen_new _ _ _ _)
      have z2 : wr.cell? ⟨w.heap.size, 2, none⟩ = some (.slice none 0 0) := Chg.cell HU2.out (cell_new _ _ _ _) id
      have y2 : wr.frozen? ⟨w.heap.size, 2, none⟩ = false := (Chg.frozen HU2.out (show (w.alloc (.cells #[.int .i64 0, .int .i64 0, .slice none 0 0, .slice none 0 0, .slice none 0 0, .slice none 0 0, .slice none 0 0] 60)).cell? ⟨w.heap.size, 2, none⟩ = some (.slice none 0 0) from cell_new _ _ _ _) id).trans (frozen_new _ _ _ _)
      have z3 : wr.cell? ⟨w.heap.size, 3, none⟩ = some (.slice none 0 0) := Chg.cell HU2.out (cell_new _ _ _ _) id
      have y3 : wr.frozen? ⟨w.heap.size, 3, none⟩ = false := (Chg.frozen HU2.out (show (w.alloc (.cells #[.int .i64 0, .int .i64 0, .slice none 0 0, .slice none 0 0, .slice none 0 0, .slice none 0 0, .slice none 0 0] 60)).cell? ⟨w.heap.size, 3, none⟩ = some (.slice none 0 0) from cell_new _ _ _ _) id).trans (frozen_new _ _ _ _)
      have z4 : wr.cell? ⟨w.heap.size, 4, none⟩ = some (.slice none 0 0) := Chg.cell HU2.out (cell_new _ _ _ _) id
      have y4 : wr.frozen? ⟨w.heap.size, 4, none⟩ = false := (Chg.frozen HU2.out (show (w.alloc (.cells #[.int .i64 0, .int .i64 0, .slice none 0 0, .slice none 0 0, .slice none 0 0, .slice none 0 0, .slice none 0 0] 60)).cell? ⟨w.heap.size, 4, none⟩ = some (.slice none 0 0) from cell_new _ _ _ _) id).trans (frozen_new _ _ _ _)
      have z5 : wr.cell? ⟨w.heap.size, 5, none⟩ = some (.slice none 0 0) := Chg.cell HU2.out (cell_new _ _ _ _) id
      have y5 : wr.frozen? ⟨w.heap.size, 5, none⟩ = false := (Chg.frozen HU2.out (show (w.alloc (.cells #[.int .i64 0, .int .i64 0, .slice none 0 0, .slice none 0 0, .slice none 0 0, .slice none 0 0, .slice none 0 0] 60)).cell? ⟨w.heap.size, 5, none⟩ = some (.slice none 0 0) from cell_new _ _ _ _) id).trans (frozen_new _ _ _ _)
      have z6 : wr.cell? ⟨w.heap.size, 6, none⟩ = some (.slice none 0 0) := Chg.cell HU2.out (cell_new _ _ _ _) id
      have y6 : wr.frozen? ⟨w.heap.size, 6, none⟩ = false := (Chg.frozen HU2.out (show (w.alloc (.cells #[.int .i64 0, .int .i64 0, .slice none 0 0, .slice none 0 0, .slice none 0 0, .slice none 0 0, .slice none 0 0] 60)).cell? ⟨w.heap.size, 6, none⟩ = some (.slice none 0 0) from cell_new _ _ _ _) id).trans (frozen_new _ _ _ _)
      clear hX HU hz0 hS0 hlt hj hsz hn
      go_wp2
      exact bodyPost_ret (v := machVal (newM n) (.slice A1 fs.length d1) (.slice A2 bs.length d2) (.slice A3 4 d3) (.slice none 0 0) (.slice none 0 0)) (by simp [results, Tryz.results29, go_sem, machVal, newM, z0, z1, z2, z3, z4, z5, z6]) rfl ⟨_, _, _, _, _, rfl, hV.out.keep (((((((((Chg.refl (fun b => b = w.heap.size) wr).setCell (.inl rfl) _).setCell (.inl rfl) _).setCell (.inl rfl) _).setCell (.inl rfl) _).setCell (.inl rfl) _).setCell (.inl rfl) _).setCell (.inl rfl) _)) (fun b _ h1 h2 => by have h3 : w.heap.size < b := h1; omega), Chg.new (Chg.trans ((Chg.refl _ _).alloc _) HU2.out) (((((((((Chg.refl (fun b => b = w.heap.size) wr).setCell (.inl rfl) _).setCell (.inl rfl) _).setCell (.inl rfl) _).setCell (.inl rfl) _).setCell (.inl rfl) _).setCell (.inl rfl) _).setCell (.inl rfl) _)) (fun i hi hd => by omega)⟩
    obtain ⟨A1, d1, rfl, hl1, hm1, -⟩ := ownsRow_shape hX.f
    obtain ⟨A2, d2, rfl, hl2, hm2, -⟩ := ownsRow_shape hX.b
    have hln1 : fs.length ≤ 1000000 := by have := hX.fl; simp [halfM] at this; omega
    have hln2 : bs.length ≤ 1000000 := by have := hX.bl; simp [halfM] at this; omega
    have HX1 := Lib.hid hX
    clear hX
    have up1 : Up wr ((wr.alloc (.cells #[] 2)).alloc (.cells #[(.slice (some ⟨wr.heap.size, 0, none⟩) 0 0)] 34)) := ((Chg.refl Nowhere wr).alloc _).alloc _
    have D1 := HX1.out.c2.1
    have E1 := Chg.cell up1 D1 id
    have F1 := (Chg.frozen up1 D1 id).trans HX1.out.c2.2
    have O1 := Lib.hid (rowKept HX1.out.f up1 (fun _ _ hh => hh))
    have U1 := Lib.hid up1
    have N1 : ((wr.alloc (.cells #[] 2)).alloc (.cells #[(.slice (some ⟨wr.heap.size, 0, none⟩) 0 0)] 34)).cell? ⟨wr.heap.size + 1, 0, none⟩ = some (.slice (some ⟨wr.heap.size, 0, none⟩) 0 0) := (by first | (simp; done) | (have := cell_new (wr.alloc (.cells #[] 2)) #[(.slice (some ⟨wr.heap.size, 0, none⟩) 0 0)] 34 0; simpa using this))
    have HP1 : Hid (¬ (Value.slice A1 fs.length d1).ownBlock = some (w.heap.size + 1 + 1)) := Lib.hid (fun e => HX1.out.off_p (Value.slice A1 fs.length d1) (by simp) (w.heap.size + 1 + 1) e rfl)
    have HL1 : Hid (∀ b, (Value.slice A1 fs.length d1).ownBlock = some b → b < wr.heap.size) := Lib.hid (fun b e => (HX1.out.f.lt b e).2)
    clear up1
    go_wp2_with (first | (at_builtin; refine wp_append_lst rfl _ _ rfl _ fs rfl O1.out _ (.slice (some ⟨wr.heap.size, 0, none⟩) 0 0) rfl N1 rfl hln1 ?_; intro v1 w1 ha1 hb1 hc1; obtain ⟨Ea1, ea1, rfl, -⟩ := ownsRow_shape ha1; have D1 := Chg.cell hb1 E1 HP1.out; have F1 := (Chg.frozen hb1 E1 HP1.out).trans F1; have hb21 := Chg.trans (Chg.of_up U1.out) hb1; have hu1 : OwnI w1 0 (.slice (some ⟨wr.heap.size, 0, none⟩) 0 0) [] := (ownI_nil (heap_old (heap_new (by simp)))).kept hb1 (fun x hx hv => by have := HL1.out x hv; simp [Value.ownBlock] at hx; omega); have hx1 := HX1.out.pushF hS0 hb21 ha1 hu1 (fun b hb => (hc1 b hb).imp id fun h => Nat.le_trans U1.out.size h) (fun b hb => by simp [Value.ownBlock] at hb; omega) (fun b h1 h2 => by simp [Value.ownBlock] at h2; have h3 := U1.out.size; simp at h3; exact (hc1 b h1).elim (fun h4 => by have := HL1.out b h4; omega) (fun h4 => by simp at h4; omega)); have hz1 := hb21.size; have hu01 := hb21; rw [halfF] at hx1; have hzs : (w1.setCell ⟨(w.heap.size + 1 + 1), 2, none⟩ (.slice Ea1 (fs.length + 1) ea1)).heap.size = w1.heap.size := (by simp [World.setCell]); have hz1b : w.heap.size + 2 < (w1.setCell ⟨(w.heap.size + 1 + 1), 2, none⟩ (.slice Ea1 (fs.length + 1) ea1)).heap.size := (by have h9 : w.heap.size + 2 < w1.heap.size := (by omega); simpa [World.setCell] using h9); have G1 : Chg (fun b => w.heap.size < b) wr (w1.setCell ⟨(w.heap.size + 1 + 1), 2, none⟩ (.slice Ea1 (fs.length + 1) ea1)) := Chg.setCell (hb21.mono fun b _ h => HX1.out.own (Value.slice A1 fs.length d1) (by simp) b h) (.inl (show w.heap.size < (w.heap.size + 1 + 1) by omega)) _; have HX2 := Lib.hid hx1; clear ha1 hb1 hc1 hb21 hu1 hx1 E1; have up2 : Up (w1.setCell ⟨(w.heap.size + 1 + 1), 2, none⟩ (.slice Ea1 (fs.length + 1) ea1)) (((w1.setCell ⟨(w.heap.size + 1 + 1), 2, none⟩ (.slice Ea1 (fs.length + 1) ea1)).alloc (.cells #[] 2)).alloc (.cells #[(.slice (some ⟨w1.heap.size, 0, none⟩) 0 0)] 34)) := ((Chg.refl Nowhere (w1.setCell ⟨(w.heap.size + 1 + 1), 2, none⟩ (.slice Ea1 (fs.length + 1) ea1))).alloc _).alloc _; have D2 := HX2.out.c3.1; have E2 := Chg.cell up2 D2 id; have F2 := (Chg.frozen up2 D2 id).trans HX2.out.c3.2; have O2 := Lib.hid (rowKept HX2.out.b up2 (fun _ _ hh => hh)); have U2 := Lib.hid up2; have N2 : (((w1.setCell ⟨(w.heap.size + 1 + 1), 2, none⟩ (.slice Ea1 (fs.length + 1) ea1)).alloc (.cells #[] 2)).alloc (.cells #[(.slice (some ⟨w1.heap.size, 0, none⟩) 0 0)] 34)).cell? ⟨w1.heap.size + 1, 0, none⟩ = some (.slice (some ⟨w1.heap.size, 0, none⟩) 0 0) := (by first | (simp; done) | (have := cell_new ((w1.setCell ⟨(w.heap.size + 1 + 1), 2, none⟩ (.slice Ea1 (fs.length + 1) ea1)).alloc (.cells #[] 2)) #[(.slice (some ⟨w1.heap.size, 0, none⟩) 0 0)] 34 0; simpa using this)); have HP2 : Hid (¬ (Value.slice A2 bs.length d2).ownBlock = some (w.heap.size + 1 + 1)) := Lib.hid (fun e => HX2.out.off_p (Value.slice A2 bs.length d2) (by simp) (w.heap.size + 1 + 1) e rfl); have HL2 : Hid (∀ b, (Value.slice A2 bs.length d2).ownBlock = some b → b < (w1.setCell ⟨(w.heap.size + 1 + 1), 2, none⟩ (.slice Ea1 (fs.length + 1) ea1)).heap.size) := Lib.hid (fun b e => (HX2.out.b.lt b e).2); clear up2) | (at_builtin; refine wp_append_lst rfl _ _ rfl _ bs rfl O2.out _ (.slice (some ⟨w1.heap.size, 0, none⟩) 0 0) rfl N2 rfl hln2 ?_; intro v2 w2 ha2 hb2 hc2; obtain ⟨Ea2, ea2, rfl, -⟩ := ownsRow_shape ha2; have D2 := Chg.cell hb2 E2 HP2.out; have F2 := (Chg.frozen hb2 E2 HP2.out).trans F2; have hb22 := Chg.trans (Chg.of_up U2.out) hb2; have hu2 : OwnI w2 0 (.slice (some ⟨w1.heap.size, 0, none⟩) 0 0) [] := (ownI_nil (heap_old (heap_new (by simp)))).kept hb2 (fun x hx hv => by have := HL2.out x hv; simp [Value.ownBlock] at hx; omega); have hx2 := HX2.out.pushB (fun b hb => by show w.heap.size < b; omega) hb22 ha2 hu2 (fun b hb => (hc2 b hb).imp id fun h => Nat.le_trans U2.out.size h) (fun b hb => by simp [Value.ownBlock] at hb; omega) (fun b h1 h2 => by simp [Value.ownBlock] at h2; have h3 := U2.out.size; simp at h3; exact (hc2 b h1).elim (fun h4 => by have := HL2.out b h4; omega) (fun h4 => by simp at h4; omega)); have hz2 := hb22.size; have hu02 := hb22; rw [halfB] at hx2; have HX3 := Lib.hid hx2; have G2 : Chg (fun b => w.heap.size < b) (w1.setCell ⟨(w.heap.size + 1 + 1), 2, none⟩ (.slice Ea1 (fs.length + 1) ea1)) (w2.setCell ⟨(w.heap.size + 1 + 1), 3, none⟩ (.slice Ea2 (bs.length + 1) ea2)) := Chg.setCell (hb22.mono fun b _ h => HX2.out.own (Value.slice A2 bs.length d2) (by simp) b h) (.inl (show w.heap.size < (w.heap.size + 1 + 1) by omega)) _; clear ha2 hb2 hc2 hb22 hu2 hx2 E2))
    go_roundw
    case rel =>
      refine ⟨j + 1, by omega, by go_num, ⟨_, _, _, _, _, HX3.out⟩, Chg.new (Chg.new HU.out G1 fun i hi hd => by simp at hi; omega) G2 fun i hi hd => by simp at hi; omega, ?_⟩
      have := G2.size
      omega
    case measure => first | (simp [intOf]; done) | (simp [intOf]; omega)
end Go.Proofs.YtiiodfcbpmkodaaGreat
