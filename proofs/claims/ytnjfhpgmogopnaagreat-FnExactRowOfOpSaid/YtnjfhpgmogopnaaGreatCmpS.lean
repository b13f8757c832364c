/- The compiled program of a chart: the reference's way. No condition but the chart's validity. -/
import Derived.Test.YtnjfhpgmogopnaaGreatCmpP
set_option linter.unusedSimpArgs false
set_option linter.unusedVariables false
set_option maxRecDepth 100000
set_option maxHeartbeats 2000000
namespace Go.Proofs.YtnjfhpgmogopnaaGreat
open Go.ChangeShapes Go.WideShapes Go.ChangeAt Go.RowKit
theorem OwnO.rd' {w : World} {base : Nat} {v : Value} {xs : List OpM} (h : OwnO w base v xs) : Ops w (fun b => v.ownBlock = some b ∧ base ≤ b ∧ b < w.heap.size) v xs := by
  obtain ⟨⟨h0, A, c, rfl, h1, h2, h4, h5⟩, hok⟩ := h.ops
  refine ⟨⟨h0, A, c, rfl, h1, h2, fun hp => ?_, h5⟩, hok⟩
  obtain ⟨b, o, rfl, hs, hb, hc⟩ := h4 hp
  exact ⟨b, o, rfl, ⟨rfl, hs⟩, hb, hc⟩
theorem inOp_ok' {d c : Int} (hd : I64 d) (hc : I64 c) : (inOp d c).ok := by unfold OpM.ok inOp I64 at *; simp only []; omega
theorem outOp_ok' {c : Int} (hc : I64 c) : (outOp c).ok := by unfold OpM.ok outOp I64 at *; simp only []; omega
theorem l24Made_any (w : World) (S : Nat → Prop) (b o : Nat) (c : ChartM) (h : ChartAt w S b o c) (hk : ChartOk c) :
    Calls Tryz.prog 30 #[.pointer (some ⟨b, o, none⟩)] w fun e w' => ∃ v1 v2, e = .returned (.tuple #[v1, v2]) ∧ OpSS w' (New w.heap.size w'.heap.size) v1 (partsM c) ∧ Ints w' (New w.heap.size w'.heap.size) v2 (planQ c) ∧ Up w w' := by
  obtain ⟨m, hm⟩ : ∃ m : Nat, c.n = (m : Int) := Int.eq_ofNat_of_zero_le (by have := hk.n.1; omega)
  have hb1 : 1 ≤ m := by have := hk.n; omega
  have hb2 : m ≤ 8 := by have := hk.n; omega
  have hl8 : c.rs.length ≤ 8 := hk.rows.2
  have hl1 : 0 < c.rs.length := hk.rows.1
  have HK := Lib.hid hk
  obtain ⟨A, k, f1, f2, hr, hlk, hkm, -, -⟩ := h
  rw [hm] at f1
  have HM := Lib.hid hm
  have HR0 := Lib.hid hr
  obtain ⟨b0, o0, rfl, hc0⟩ := hr.at_ hl1
  obtain ⟨⟨d0, fc0, x0⟩, hre⟩ : ∃ r, r = c.rs[0] := ⟨_, rfl⟩
  have hcj := hc0 0 hl1
  rw [← hre, Nat.zero_mul, Nat.add_zero] at hcj
  obtain ⟨A0, c0, g1, g2, g3, -, -, -, h064, -⟩ := hcj
  have hfc0 : firstC c = fc0 := by unfold firstC; rw [rowI_eq hl1, ← hre]
  have hfc := hk.first
  rw [hfc0] at hfc
  obtain ⟨fc, rfl⟩ : ∃ n : Nat, fc0 = (n : Int) := Int.eq_ofNat_of_zero_le (by omega)
  have HFC := Lib.hid hfc0
  have hfa : 1 ≤ fc := by omega
  have hfb : fc ≤ 4 := by omega
  have HF64 : Hid (I64 (fc : Int)) := Lib.hid (by unfold I64; omega)
  have F1 := Lib.hid f1
  have F2 := Lib.hid f2
  have HIN1 := Lib.hid (fun (w : World) => (show Calls Tryz.prog 42 #[.int .i64 (fc : Int), .int .i64 1] w fun e w' => e = .returned (.tuple #[.agg #[.int .i64 8, .int .i64 1, .int .i64 0, .int .i64 0, .int .i64 0, .int .i64 0, .int .i64 (fc : Int), .int .i64 0], .int .i64 (-3)]) ∧ Up w w' from l24In_any w fc 1))
  have HCO := Lib.hid (fun (w : World) => (show Calls Tryz.prog 43 #[.int .i64 (m : Int), .int .i64 (fc : Int)] w fun e w' => ∃ v, e = .returned (.tuple #[v, .int .i64 0]) ∧ Ops w' (New w.heap.size w'.heap.size) v (castM m fc) ∧ Up w w' from by
    have := sCastOnOps_any w (m : Int) (fc : Int)
    unfold castCode castOut at this
    rw [if_pos (by omega), if_pos (by omega), Int.toNat_natCast] at this
    exact this))
  have HNC := Lib.hid (fun (w : World) => (show Calls Tryz.prog 44 #[.int .i64 ((m : Int) - 1)] w fun e w' => e = .returned (.tuple #[.int .i64 (2 * ((m : Int) - 1) + 1), .bool true]) ∧ w = w' from by
    have := sNeedleOfColumn_any ((m : Int) - 1) w
    unfold ndlAt ndlOk at this
    rw [if_pos (by omega), decide_eq_true (by omega)] at this
    exact this))
  obtain ⟨L0, HL0⟩ : ∃ L0, Hid (L0 = [inOp 1 fc] ++ castM m fc) := ⟨_, Lib.hid rfl⟩
  have HLL : Hid ([inOp 1 fc].length + (castM m fc).length ≤ 1099511627776) := Lib.hid (by rw [castM_length]; simp; omega)
  have HOK : Hid (∀ x ∈ [inOp 1 fc], x.ok) := Lib.hid (by intro x hx; obtain rfl : x = _ := (by simpa using hx); exact inOp_ok' (by unfold I64; omega) HF64.out)
  obtain ⟨i0, hi, hz0, hz1, hz2⟩ := info_parts info2
  have hmk : ∀ u : World, (Instr.makeSlice 26 (.int .i64 5) (.int .i64 5)).run Tryz.prog u = .ok (.slice (some ⟨u.heap.size, 0, none⟩) 5 5) (u.alloc (.cells (madeCells #[Value.int .i64 0] 5) 2)) := fun u => by
    have h := run_make (P := Tryz.prog) u 26 2 i0 (.int .i64 0) Tryz.underlying26 hi hz0 .i64 .i64 5 5 (by omega) (Int.le_refl _) (by rw [hz2]; omega) (by omega)
    simpa [hz1, Value.cells] using h
  clear hc0 hre g1 g3 h064 hr hfc hi hz0 hz1 hz2 hfc0
  go_enter Tryz.func30, Tryz.ntmps30
  go_wp2_with (first
    | (go_at_call 42; refine (HIN1.out _).mono ?_; rintro e w1 ⟨rfl, u1⟩; have HU1 := Lib.hid u1; have fa := Chg.cell ((Chg.refl Nowhere w1).alloc (.cells #[.int .i64 8, .int .i64 1, .int .i64 0, .int .i64 0, .int .i64 0, .int .i64 0, .int .i64 (fc : Int), .int .i64 0] 66)) (u1.cell F1.out id) id; clear u1 f1 f2 g2)
    | (go_at_call 43; refine (HCO.out _).mono ?_; rintro e w2 ⟨v2, rfl, k2, u2⟩; obtain ⟨A2, c2, rfl, hl2, hc2, -⟩ := k2.shape; have HK2 := Lib.hid k2; have HU2 := Lib.hid (show Up w w2 from Chg.trans HU1.out (Chg.trans (by repeat (first | exact Chg.refl _ _ | apply Chg.drew | apply Chg.drewN | refine Chg.alloc ?_ _)) u2)); have hz12 : w1.heap.size + 1 ≤ w2.heap.size := (by have := u2.size; (try simp [World.size_alloc, World.setCell] at this); omega); have eo0 := Chg.cell u2 (cell_new w1 #[.int .i64 8, .int .i64 1, .int .i64 0, .int .i64 0, .int .i64 0, .int .i64 0, .int .i64 (fc : Int), .int .i64 0] 66 0) id; have eo1 := Chg.cell u2 (cell_new w1 #[.int .i64 8, .int .i64 1, .int .i64 0, .int .i64 0, .int .i64 0, .int .i64 0, .int .i64 (fc : Int), .int .i64 0] 66 1) id; have eo2 := Chg.cell u2 (cell_new w1 #[.int .i64 8, .int .i64 1, .int .i64 0, .int .i64 0, .int .i64 0, .int .i64 0, .int .i64 (fc : Int), .int .i64 0] 66 2) id; have eo3 := Chg.cell u2 (cell_new w1 #[.int .i64 8, .int .i64 1, .int .i64 0, .int .i64 0, .int .i64 0, .int .i64 0, .int .i64 (fc : Int), .int .i64 0] 66 3) id; have eo4 := Chg.cell u2 (cell_new w1 #[.int .i64 8, .int .i64 1, .int .i64 0, .int .i64 0, .int .i64 0, .int .i64 0, .int .i64 (fc : Int), .int .i64 0] 66 4) id; have eo5 := Chg.cell u2 (cell_new w1 #[.int .i64 8, .int .i64 1, .int .i64 0, .int .i64 0, .int .i64 0, .int .i64 0, .int .i64 (fc : Int), .int .i64 0] 66 5) id; have eo6 := Chg.cell u2 (cell_new w1 #[.int .i64 8, .int .i64 1, .int .i64 0, .int .i64 0, .int .i64 0, .int .i64 0, .int .i64 (fc : Int), .int .i64 0] 66 6) id; have eo7 := Chg.cell u2 (cell_new w1 #[.int .i64 8, .int .i64 1, .int .i64 0, .int .i64 0, .int .i64 0, .int .i64 0, .int .i64 (fc : Int), .int .i64 0] 66 7) id; clear k2 u2 fa)
    | (at_builtin; refine wp_append_ops rfl _ _ rfl w.heap.size _ [inOp 1 fc] rfl (OwnO.lit (xs := [inOp 1 fc]) (heap_new_at rfl) rfl HU2.out.size (by simp) HOK.out) _ _ (castM m fc) rfl (HK2.out.up (by repeat (first | exact Chg.refl _ _ | apply Chg.drew | apply Chg.drewN | refine Chg.alloc ?_ _))) HLL.out (by have := HU2.out.size; (first | omega | (simp [World.size_alloc, World.setCell]; done) | (simp [World.size_alloc, World.setCell]; omega))) ?_; intro v3 w3 ho1 _ hg1; rw [← HL0.out] at ho1; have HO := Lib.hid ho1; have HG := Lib.hid (show Up w w3 from Chg.new (Chg.trans HU2.out (by repeat (first | exact Chg.refl _ _ | apply Chg.drew | apply Chg.drewN | refine Chg.alloc ?_ _))) hg1 (fun i hi h9 => by omega)); obtain ⟨A5, c5, rfl, -⟩ := ho1.ops.shape; have hz3 : w.heap.size + 1 ≤ w3.heap.size := (by have := hg1.size; have := HU2.out.size; (try simp [World.size_alloc] at *); omega); have fb := Chg.cell (show Up w (((w3.alloc (.cells #[.slice A5 L0.length c5] 41)).alloc (.cells #[.int .i64 (fc : Int)] 2)).alloc (.cells (madeCells #[Value.int .i64 0] 5) 2)) from Chg.trans HG.out (by repeat (first | exact Chg.refl _ _ | apply Chg.drew | apply Chg.drewN | refine Chg.alloc ?_ _))) F1.out id; have fp : ((((w3.alloc (.cells #[.slice A5 L0.length c5] 41)).alloc (.cells #[.int .i64 (fc : Int)] 2)).alloc (.cells (madeCells #[Value.int .i64 0] 5) 2))).cell? ⟨(w3.heap.size + 1 + 1), fc, none⟩ = some (.int .i64 0) := (by have := cell_new ((w3.alloc (.cells #[.slice A5 L0.length c5] 41)).alloc (.cells #[.int .i64 (fc : Int)] 2)) (madeCells #[Value.int .i64 0] 5) 2 fc; rw [madeInts_get _ _ (by omega)] at this; simpa [World.size_alloc] using this); have fz : ((((w3.alloc (.cells #[.slice A5 L0.length c5] 41)).alloc (.cells #[.int .i64 (fc : Int)] 2)).alloc (.cells (madeCells #[Value.int .i64 0] 5) 2))).frozen? ⟨(w3.heap.size + 1 + 1), fc, none⟩ = false := (by have := frozen_new ((w3.alloc (.cells #[.slice A5 L0.length c5] 41)).alloc (.cells #[.int .i64 (fc : Int)] 2)) (madeCells #[Value.int .i64 0] 5) 2 fc; simpa [World.size_alloc] using this); have fd := Chg.cell (show Up w ((((w3.alloc (.cells #[.slice A5 L0.length c5] 41)).alloc (.cells #[.int .i64 (fc : Int)] 2)).alloc (.cells ((madeCells #[Value.int .i64 0] 5).setIfInBounds fc (.int .i64 (2 * ((m : Int) - 1) + 1 + 1))) 2)).alloc (.cells #[] 2)) from Chg.trans HG.out (by repeat (first | exact Chg.refl _ _ | apply Chg.drew | apply Chg.drewN | refine Chg.alloc ?_ _))) F1.out id; clear ho1 hg1 eo0 eo1 eo2 eo3 eo4 eo5 eo6 eo7)
    | (go_at_call 44; refine (HNC.out _).mono ?_; rintro e w' ⟨rfl, rfl⟩))
  clear hmk
  have HP0 : Hid ((cmpTo c 0).parts = [L0] ∧ (cmpTo c 0).plan = [] ∧ (cmpTo c 0).f = (fun z => if z = (fc : Int) then some (2 * ((m : Int) - 1) + 1 + 1) else none) ∧ insL c 0 = [(fc : Int)] ∧ m = (atS c.n c.rs 0).length) := Lib.hid (by
    refine ⟨?_, rfl, ?_, ?_, ?_⟩
    · show [inOp 1 (firstC c) :: castM c.n.toNat (firstC c)] = [L0]
      rw [HFC.out, HM.out, HL0.out, Int.toNat_natCast]; rfl
    · show putF (fun _ => none) (firstC c) (2 * c.n) = _
      rw [HFC.out, HM.out]
      funext z
      unfold putF
      rw [show 2 * ((m : Int) - 1) + 1 + 1 = 2 * m by omega]
    · show [firstC c] = _
      rw [HFC.out]
    · show m = (List.replicate c.n.toNat (1 : Int)).length
      rw [HM.out, List.length_replicate, Int.toNat_natCast])
  go_loopw [9, 10, 14, 15, 16] (fun q0 n0 p0 cl i wr => ∃ (j cn : Nat) (q vin p : Value), q = q0 ∧ vin = n0 ∧ p = p0 ∧ j ≤ c.rs.length ∧ i = .int .i64 j ∧ cl = .int .i64 (cn : Int) ∧ Hid (cn = (atS c.n c.rs j).length) ∧ Hid (∃ Qin : Nat → Prop, Ints wr Qin vin (insL c j) ∧ Cmp wr w.heap.size (fun b => b = (w3.heap.size + 1 + 1) ∨ Qin b) q p (cmpTo c j).parts (cmpTo c j).plan ∧ ∀ b, Qin b → b ≠ (w3.heap.size + 1 + 1)) ∧ Hid (Plc wr (w3.heap.size + 1 + 1) (cmpTo c j).f) ∧ Hid (Up w wr) ∧ (w3.heap.size + 1 + 1) < wr.heap.size) (fun _ _ _ _ i _ => c.rs.length - (intOf i).toNat)
  case atStart =>
    refine ⟨0, m, _, _, _, rfl, rfl, rfl, by omega, rfl, rfl, Lib.hid HP0.out.2.2.2.2, Lib.hid ⟨fun b => b = w3.heap.size + 1, ?_, ?_, fun b h => by have h : b = w3.heap.size + 1 := h; omega⟩, Lib.hid ?_, Lib.hid (Chg.trans HG.out (by repeat (first | exact Chg.refl _ _ | apply Chg.drew | apply Chg.drewN | refine Chg.alloc ?_ _))), by simp [World.size_alloc]⟩
    · rw [HP0.out.2.2.2.1]
      have h1 := (lit1 (w3.alloc (.cells #[.slice A5 L0.length c5] 41)) (fc : Int) HF64.out (w3.heap.size + 1) (by simp)).mono (T := fun b => b = w3.heap.size + 1) (fun b hb h9 => by have := h9.1; simp [World.size_alloc] at hb; omega)
      rw [World.size_alloc] at h1
      exact h1.up (((Chg.refl _ _).alloc _).alloc _)
    · rw [HP0.out.1, HP0.out.2.1]
      refine Cmp.start2 (Q := fun b => w.heap.size ≤ b ∧ b < w3.heap.size) ?_ (heap_new_at (by simp [World.size_alloc])) (by omega) (by omega) (by omega) (((HO.out.rd'.mono (T := fun b => w.heap.size ≤ b ∧ b < w3.heap.size) (fun b hb h9 => ⟨h9.2.1, h9.2.2⟩))).up (by repeat (first | exact Chg.refl _ _ | apply Chg.drew | apply Chg.drewN | refine Chg.alloc ?_ _))) (fun b hb h9 => ⟨h9.1, by have := h9.2; omega, by have := h9.2; omega⟩) _ (fun b h9 => ?_)
      · exact ((((Chg.refl Nowhere (w3.alloc (.cells #[.slice A5 L0.length c5] 41))).alloc _).alloc _).alloc _).block w3.heap.size (by simp) id |>.trans (heap_alloc_new _ _)
      · rcases h9 with h9 | h9
        · exact ⟨fun h8 => by have := h8.2; omega, by omega, by omega⟩
        · have h9 : b = w3.heap.size + 1 := h9
          exact ⟨fun h8 => by have := h8.2; omega, by omega, by omega⟩
    · rw [HP0.out.2.2.1]
      have h1 := Plc.start (w := (w3.alloc (.cells #[.slice A5 L0.length c5] 41)).alloc (.cells #[.int .i64 (fc : Int)] 2)) (n := fc) (v := 2 * ((m : Int) - 1) + 1 + 1) (by omega)
      rw [World.size_alloc, World.size_alloc] at h1
      exact h1.up ((Chg.refl _ _).alloc _)
  case round =>
    obtain ⟨j, cn, q, vin, p, rfl, rfl, rfl, hj, rfl, rfl, HCN, hcn, hpl, hu, hz⟩ := hrel
    obtain ⟨Qin, hin, hc, hqp⟩ := hcn.out
    clear hcn
    have hzu : w.heap.size ≤ wr.heap.size := hu.out.size
    have fr2 := hu.out.cell F2.out id
    by_cases hlt : j < c.rs.length
    · obtain ⟨b4, o4, he4, hcj⟩ := HR0.out.at_ hlt
      obtain ⟨rfl, rfl⟩ : b0 = b4 ∧ o0 = o4 := by simpa using he4
      obtain ⟨⟨rd, rn0, rx⟩, hre⟩ : ∃ r, r = c.rs[j] := ⟨_, rfl⟩
      have hcj := hcj j hlt
      rw [← hre] at hcj
      obtain ⟨A3, c3, f1, f2, f3, hix, -, -, h64, -⟩ := hcj
      have hri : rowI c.rs j = ⟨rd, rn0, rx⟩ := by rw [rowI_eq hlt, ← hre]
      have hfit := HK.out.fit j hlt
      have hcar := car_bd HK.out hlt
      have hol := opsC_len HK.out hlt
      have hask := ask_ok HK.out hlt
      have hro := rowOut_ok HK.out hlt
      have hco := carOut_ok HK.out hlt
      have hatS : atS c.n c.rs (j + 1) = saL (atS c.n c.rs j) (rowI c.rs j).xs := rfl
      have hstep := insL_step c hlt
      have hsucc := insL_succ c hlt
      have hsome := cmp_some c j hj
      rw [hri] at hfit hcar hol hask hro hco hatS hstep hsucc
      have hlaid := laid_of hfit.code
      have hdir := hlaid.dir
      have hcar4 := hlaid.car
      obtain ⟨rn, rfl⟩ : ∃ n : Nat, rn0 = (n : Int) := Int.eq_ofNat_of_zero_le (by have := hcar4.1; simp only [] at this; omega)
      have hn1 : 1 ≤ rn := by have := hcar4.1; simp only [] at this; omega
      have hn4 : rn ≤ 4 := by have := hcar4.2; simp only [] at this; omega
      have HN5 : Hid (rn < 5) := Lib.hid (by omega)
      have hsb : stB rx = true := (rowB_dir (rowCode_zero hfit.code).1).2.2
      have hsn := hsome (rn : Int)
      obtain ⟨at0, HA0⟩ : ∃ x, Hid (x = carAtC (cmpTo c j) ⟨rd, rn, rx⟩) := ⟨_, Lib.hid rfl⟩
      rw [← HA0.out] at hcar hask hro hco
      have HA64 : Hid (I64 at0) := Lib.hid (by unfold I64; omega)
      obtain ⟨at1, HA1E⟩ : ∃ x, Hid (x = (rowTo ⟨rd, rn, rx⟩ ([], at0) rx.length).2) := ⟨_, Lib.hid rfl⟩
      rw [← HA1E.out] at hco
      rw [← HCN.out] at hask hro hco
      obtain ⟨cn1, HCN1⟩ : ∃ n, Hid (n = (atS c.n c.rs (j + 1)).length) := ⟨_, Lib.hid rfl⟩
      have HRO := Lib.hid (fun (w : World) (S : Nat → Prop) (v : Value) (h : RowV w S v ⟨rd, rn, rx⟩) => (show Calls Tryz.prog 47 #[v, .int .i64 (cn : Int), .int .i64 at0] w fun e w' => ∃ v', e = .returned (.tuple #[v', .int .i64 0]) ∧ Ops w' (New w.heap.size w'.heap.size) v' (opsC (cmpTo c j) ⟨rd, rn, rx⟩) ∧ Up w w' from by
        have := sRowOps_any w S v ⟨rd, rn, rx⟩ h (cn : Int) at0
        rw [hask, hro] at this
        exact this))
      have HCA1 := Lib.hid (fun (w : World) (S : Nat → Prop) (v : Value) (h : RowV w S v ⟨rd, rn, rx⟩) => (show Calls Tryz.prog 48 #[v, .int .i64 (cn : Int), .int .i64 at0] w fun e w' => e = .returned (.tuple #[.int .i64 at1, .int .i64 0]) ∧ Up w w' from by
        have := sCarrierAfter_any w S v ⟨rd, rn, rx⟩ h (cn : Int) at0
        rw [hask, hco] at this
        exact this))
      have HMD := Lib.hid (fun (w : World) (S : Nat → Prop) (h : Ints w S (.slice A3 rx.length c3) rx) => (show Calls Tryz.prog 49 #[.slice A3 rx.length c3] w fun e w' => e = .returned (.int .i64 (cn1 : Int)) ∧ Up w w' from by
        have := sMadeBy_any w S _ rx h
        rw [hsb, if_pos rfl, hfit.made] at this
        rw [HCN1.out, hatS]
        exact this))
      have HST : Hid ((cmpTo c (j + 1)).parts = (cmpTo c j).parts ++ [partC (cmpTo c j) ⟨rd, rn, rx⟩ ++ opsC (cmpTo c j) ⟨rd, rn, rx⟩] ∧ (cmpTo c (j + 1)).plan = (cmpTo c j).plan ++ [at0] ∧ (cmpTo c (j + 1)).f = fun z => if z = (rn : Int) then some at1 else (cmpTo c j).f z) := Lib.hid (by
        show (stepCmp (cmpTo c j) (rowI c.rs j)).parts = _ ∧ (stepCmp (cmpTo c j) (rowI c.rs j)).plan = _ ∧ (stepCmp (cmpTo c j) (rowI c.rs j)).f = _
        rw [hri]
        refine ⟨rfl, by rw [HA0.out]; rfl, ?_⟩
        rw [HA1E.out, HA0.out]; rfl)
      have HRC : Hid (I64 (rn : Int)) := Lib.hid h64.2
      have HR64 := Lib.hid h64
      have HIX := Lib.hid hix
      have HPL : Hid ((cmpTo c j).plan.length ≤ 1099511627776) := Lib.hid (by rw [plan_length]; omega)
      have HPN : Hid ((cmpTo c j).parts.length ≤ 1099511627) := Lib.hid (by rw [parts_length]; omega)
      have HLI : Hid ((insL c j).length ≤ 1000000) := Lib.hid (by have := insL_len c j hj; omega)
      have fx1 := hu.out.cell f1 id
      have fx2 := hu.out.cell f2 id
      have fx3 := hu.out.cell f3 id
      have eb0 : ((wr.alloc (.cells #[.int .i64 rd, .int .i64 (rn : Int), .slice A3 rx.length c3] 72)).alloc (.cells #[] 66)).cell? ⟨wr.heap.size, 0, none⟩ = some (.int .i64 rd) := Chg.cell ((Chg.refl Nowhere _).alloc (.cells #[] 66)) (cell_new _ _ _ _) id
      have eb1 : ((wr.alloc (.cells #[.int .i64 rd, .int .i64 (rn : Int), .slice A3 rx.length c3] 72)).alloc (.cells #[] 66)).cell? ⟨wr.heap.size, 1, none⟩ = some (.int .i64 (rn : Int)) := Chg.cell ((Chg.refl Nowhere _).alloc (.cells #[] 66)) (cell_new _ _ _ _) id
      have eb2 : ((wr.alloc (.cells #[.int .i64 rd, .int .i64 (rn : Int), .slice A3 rx.length c3] 72)).alloc (.cells #[] 66)).cell? ⟨wr.heap.size, 2, none⟩ = some (.slice A3 rx.length c3) := Chg.cell ((Chg.refl Nowhere _).alloc (.cells #[] 66)) (cell_new _ _ _ _) id
      have UBB := Lib.hid (show Up wr ((wr.alloc (.cells #[.int .i64 rd, .int .i64 (rn : Int), .slice A3 rx.length c3] 72)).alloc (.cells #[] 66)) from (by repeat (first | exact Chg.refl _ _ | apply Chg.drew | apply Chg.drewN | refine Chg.alloc ?_ _)))
      have HNB := Lib.hid ((hin.mono (T := fun x => Qin x ∧ x < wr.heap.size) (fun x hx hq => ⟨hq, hx⟩)).up UBB.out)
      have HCB := Lib.hid (show Cmp ((wr.alloc (.cells #[.int .i64 rd, .int .i64 (rn : Int), .slice A3 rx.length c3] 72)).alloc (.cells #[] 66)) w.heap.size (fun x => (x = (w3.heap.size + 1 + 1) ∨ (Qin x ∧ x < wr.heap.size)) ∨ wr.heap.size ≤ x) q p (cmpTo c j).parts (cmpTo c j).plan from (hc.more.less (fun x hx h9 => by
        rcases h9 with (h9 | h9) | h9
        · exact .inl (.inl h9)
        · exact .inl (.inr h9.1)
        · exact .inr h9)).up UBB.out)
      have HLB := Lib.hid (hpl.out.up UBB.out)
      have hpb := OwnO.made (wr.alloc (.cells #[.int .i64 rd, .int .i64 (rn : Int), .slice A3 rx.length c3] 72)) wr.heap.size (by simp)
      rw [World.size_alloc wr] at hpb
      have HPB := Lib.hid hpb
      have HPE := Lib.hid (show ∀ x, Value.ownBlock (.slice (some ⟨wr.heap.size + 1, 0, none⟩) 0 0) = some x → x = wr.heap.size + 1 from fun x hb => by have hb2 : some (wr.heap.size + 1) = some x := hb; injection hb2 with hb3; omega)
      have HUB := Lib.hid (Chg.trans hu.out UBB.out)
      have HOL := Lib.hid (show ∀ x, q.ownBlock = some x → w.heap.size ≤ x from fun x h9 => hc.lt1 h9)
      have HOX0 := Lib.hid (show ∀ x, q.ownBlock = some x → ¬ (x = (w3.heap.size + 1 + 1) ∨ (Qin x ∧ x < wr.heap.size) ∨ wr.heap.size ≤ x) from fun x h9 h8 => by
        rcases h8 with h8 | h8 | h8
        · exact hc.off1 x h9 (.inl h8)
        · exact hc.off1 x h9 (.inr h8.1)
        · have := hc.lt1' h9; omega)
      clear hcj hix h64 f1 f2 f3 hre hpb hfit hcar he4 hask hro hco hlaid hcar4 hatS hsome hri hin hc
      by_cases hmem : (rn : Int) ∈ insL c j
      · have hsm := hsn.2 hmem
        obtain ⟨y0, hy0⟩ := Option.isSome_iff_exists.1 hsm
        have HHAS := Lib.hid (fun (w : World) (S : Nat → Prop) (v : Value) (h : Ints w S v (insL c j)) => (show Calls Tryz.prog 45 #[v, .int .i64 (rn : Int)] w fun e w' => e = .returned (.bool true) ∧ w = w' from by
          have := l00Has_any w S v _ (rn : Int) h
          rw [decide_eq_true hmem] at this
          exact this))
        have HFV : Hid (((cmpTo c j).f (rn : Int)).getD 0 = at0) := Lib.hid (by rw [HA0.out]; unfold carAtC; simp only [hy0]; rfl)
        have HPT : Hid (partC (cmpTo c j) ⟨rd, rn, rx⟩ = []) := Lib.hid (by unfold partC; simp only [hy0]; rfl)
        have HLP : Hid (([] : List OpM).length + (opsC (cmpTo c j) ⟨rd, rn, rx⟩).length ≤ 1099511627776) := Lib.hid (by simp; omega)
        obtain ⟨LO, HLO⟩ : ∃ L, Hid (L = ([] : List OpM) ++ opsC (cmpTo c j) ⟨rd, rn, rx⟩) := ⟨_, Lib.hid rfl⟩
        rw [HPT.out, ← HLO.out] at HST
        have HIE : Hid (insL c (j + 1) = insL c j) := Lib.hid (hstep hmem)
        have HFE : Hid ((fun z => if z = (rn : Int) then some at1 else (cmpTo c j).f z) = fun z => if z = (rn : Int) then some at1 else (cmpTo c j).f z) := Lib.hid rfl
        obtain ⟨fpl, -⟩ := HLB.out.at_ (n := rn) (by omega) HFV.out
        have HPW := Lib.hid (show ∀ x, Value.ownBlock (.slice (some ⟨wr.heap.size + 1, 0, none⟩) 0 0) = some x → wr.heap.size + 1 ≤ x ∧ x < wr.heap.size + 2 from fun x hb => by have := HPE.out x hb; omega)
        have HQ3 := Lib.hid (show ∀ x, (Qin x ∧ x < wr.heap.size) → x ≠ (w3.heap.size + 1 + 1) from fun x hq => hqp x hq.1)
        have HQY := Lib.hid (show ∀ x, (x = (w3.heap.size + 1 + 1) ∨ (Qin x ∧ x < wr.heap.size)) → x < wr.heap.size + 2 ∧ Value.ownBlock (.slice (some ⟨wr.heap.size + 1, 0, none⟩) 0 0) ≠ some x from fun x hq => by
          have hx : x < wr.heap.size := by rcases hq with hq | hq <;> omega
          exact ⟨by omega, fun h9 => by have := HPE.out x h9; omega⟩)
        have HOX := HOX0
        clear hol hdir hsn hsm hy0 hmem hsucc hstep hsb
        go_wp2_with (first
            | (go_at_call 45; refine (HHAS.out _ _ _ (HNB.out.up (by repeat (first | exact Chg.refl _ _ | apply Chg.drew | apply Chg.drewN | refine Chg.alloc ?_ _)))).mono ?_; rintro e w' ⟨rfl, rfl⟩)
            | (at_builtin; refine wp_append_int2 rfl _ _ rfl w.heap.size _ (cmpTo c j).plan rfl (HCB.out.own2.up (by repeat (first | exact Chg.refl _ _ | apply Chg.drew | apply Chg.drewN | refine Chg.alloc ?_ _))) _ at0 rfl (cell_at (by simp [World.size_alloc]) rfl) HA64.out HPL.out (by first | omega | (simp [World.size_alloc, World.setCell]; done) | (simp [World.size_alloc, World.setCell]; omega)) ?_; intro v7 w7 ho7 g7 b7 _; have HC7 := Lib.hid (Cmp.planned (HCB.out.up (by repeat (first | exact Chg.refl _ _ | apply Chg.drew | apply Chg.drewN | refine Chg.alloc ?_ _))) ho7 g7 b7); have HL7 := Lib.hid ((HLB.out.up (by repeat (first | exact Chg.refl _ _ | apply Chg.drew | apply Chg.drewN | refine Chg.alloc ?_ _))).keep g7 (fun h9 => HCB.out.off2 _ h9 (.inl (.inl rfl)))); have HN7 := Lib.hid ((HNB.out.up (by repeat (first | exact Chg.refl _ _ | apply Chg.drew | apply Chg.drewN | refine Chg.alloc ?_ _))).keep g7 (fun x hx hq h9 => HCB.out.off2 x h9 (.inl (.inr hq)))); have HP7 := Lib.hid ((HPB.out.up (by repeat (first | exact Chg.refl _ _ | apply Chg.drew | apply Chg.drewN | refine Chg.alloc ?_ _))).kept g7 (fun g hg h9 => HCB.out.off2 _ h9 (.inr (by have := (HPW.out _ hg).1; omega)))); have ec0 := Chg.cell g7 (Chg.cell (S := Nowhere) (by repeat (first | exact Chg.refl _ _ | apply Chg.drew | apply Chg.drewN | refine Chg.alloc ?_ _)) eb0 id) (fun h9 => HCB.out.off2 _ h9 (.inr (Nat.le_refl _))); have ec1 := Chg.cell g7 (Chg.cell (S := Nowhere) (by repeat (first | exact Chg.refl _ _ | apply Chg.drew | apply Chg.drewN | refine Chg.alloc ?_ _)) eb1 id) (fun h9 => HCB.out.off2 _ h9 (.inr (Nat.le_refl _))); have ec2 := Chg.cell g7 (Chg.cell (S := Nowhere) (by repeat (first | exact Chg.refl _ _ | apply Chg.drew | apply Chg.drewN | refine Chg.alloc ?_ _)) eb2 id) (fun h9 => HCB.out.off2 _ h9 (.inr (Nat.le_refl _))); have HU7 := Lib.hid (show Up w w7 from Chg.new (Chg.trans HUB.out (by repeat (first | exact Chg.refl _ _ | apply Chg.drew | apply Chg.drewN | refine Chg.alloc ?_ _))) g7 (fun i hi h9 => by have := (HCB.out.own2.lt h9).1; omega)); have hz7 : wr.heap.size + 2 + 1 ≤ w7.heap.size := (by have := g7.size; (try simp [World.size_alloc] at this ⊢); omega); have HRV := Lib.hid (show RowV w7 _ (.agg #[.int .i64 rd, .int .i64 (rn : Int), .slice A3 rx.length c3]) ⟨rd, rn, rx⟩ from ⟨_, rfl, HIX.out.up HU7.out, HR64.out⟩); clear ho7 g7 b7 eb0 eb1 eb2)
            | (go_at_call 47; (with_reducible refine (HRO.out _ _ _ (HRV.out.up (by repeat (first | exact Chg.refl _ _ | apply Chg.drew | apply Chg.drewN | refine Chg.alloc ?_ _)))).mono ?_); rintro e w8 ⟨v8, rfl, k8, u8⟩; obtain ⟨A8, c8, rfl, hl8', hc8, -⟩ := k8.shape; have K8 := Lib.hid k8; have U8 := Lib.hid (show Up w7 w8 from Chg.trans (by repeat (first | exact Chg.refl _ _ | apply Chg.drew | apply Chg.drewN | refine Chg.alloc ?_ _)) u8); have HRV8 := Lib.hid (HRV.out.up U8.out); have ed0 := Chg.cell U8.out ec0 id; have ed1 := Chg.cell U8.out ec1 id; have ed2 := Chg.cell U8.out ec2 id; have hz8 : w7.heap.size ≤ w8.heap.size := U8.out.size; clear k8 u8 ec0 ec1 ec2)
            | (go_at_call 48; (with_reducible refine (HCA1.out _ _ _ (HRV8.out.up (by repeat (first | exact Chg.refl _ _ | apply Chg.drew | apply Chg.drewN | refine Chg.alloc ?_ _)))).mono ?_); rintro e w9 ⟨rfl, u9⟩; have U9 := Lib.hid (show Up w8 w9 from Chg.trans (by repeat (first | exact Chg.refl _ _ | apply Chg.drew | apply Chg.drewN | refine Chg.alloc ?_ _)) u9); have U79 := Lib.hid (Chg.trans U8.out U9.out); have hz9 : w8.heap.size ≤ w9.heap.size := U9.out.size; have GS := Lib.hid (show Chg (fun x => x = (w3.heap.size + 1 + 1)) w9 (w9.setCell ⟨(w3.heap.size + 1 + 1), rn, none⟩ (.int .i64 at1)) from Chg.setCell (Chg.refl (fun x => x = (w3.heap.size + 1 + 1)) w9) (p := ⟨(w3.heap.size + 1 + 1), rn, none⟩) (.inl rfl) _); have HCS := Lib.hid ((HC7.out.up U79.out).keep GS.out (fun x hx h9 => ⟨.inl (.inl h9), by have h9 : x = (w3.heap.size + 1 + 1) := h9; (first | omega | (simp [World.size_alloc, World.setCell]; done) | (simp [World.size_alloc, World.setCell]; omega))⟩)); have HL9 := Lib.hid (HL7.out.up U79.out); have fpl9 := (HL9.out.at_ (n := rn) HN5.out (y := at0) (by first | exact HFV.out | simp)).1; have fz9 := (HL9.out.at_ (n := rn) HN5.out (y := at0) (by first | exact HFV.out | simp)).2; have HLS := Lib.hid (HL9.out.put (n := rn) (by omega) at1); have HNS := Lib.hid ((HN7.out.up U79.out).keep GS.out (fun x hx hq h9 => HQ3.out x hq h9)); have HPS := Lib.hid ((HP7.out.up U79.out).kept GS.out (fun g hg h9 => by have := (HPW.out _ hg).1; have h9 : g = (w3.heap.size + 1 + 1) := h9; omega)); have KS := Lib.hid ((K8.out.up U9.out).keep GS.out (fun x hx h1 h2 => by have := h1.1; have h2 : x = (w3.heap.size + 1 + 1) := h2; (first | omega | (simp [World.size_alloc, World.setCell]; done) | (simp [World.size_alloc, World.setCell]; omega)))); have HUS := Lib.hid (show Up w (w9.setCell ⟨(w3.heap.size + 1 + 1), rn, none⟩ (.int .i64 at1)) from Chg.new (Chg.trans HU7.out U79.out) GS.out (fun i hi h9 => by have h9 : i = (w3.heap.size + 1 + 1) := h9; omega)); have ee1 := Chg.cell U9.out ed1 id; have ee2 := Chg.cell GS.out (Chg.cell U9.out ed2 id) (fun h9 => by have h9 : wr.heap.size = (w3.heap.size + 1 + 1) := h9; omega); have hzS : w9.heap.size = (w9.setCell ⟨(w3.heap.size + 1 + 1), rn, none⟩ (.int .i64 at1)).heap.size := (by simp [World.setCell]); clear u9 ed0 ed1 ed2)
            | (at_builtin; refine wp_append_cmp rfl _ _ rfl w.heap.size _ _ _ v7 (cmpTo c j).parts ((cmpTo c j).plan ++ [at0]) rfl (HC10.out.up (by repeat (first | exact Chg.refl _ _ | apply Chg.drew | apply Chg.drewN | refine Chg.alloc ?_ _))) _ _ LO rfl (cell_at (by simp [World.size_alloc]) rfl) (K10.out.up (by repeat (first | exact Chg.refl _ _ | apply Chg.drew | apply Chg.drewN | refine Chg.alloc ?_ _))) (offS' HB10.out HPW.out hzu (by first | omega | (simp [World.size_alloc, World.setCell]; done) | (simp [World.size_alloc, World.setCell]; omega)) _) HPN.out (by have := HU10.out.size; (first | omega | (simp [World.size_alloc, World.setCell]; done) | (simp [World.size_alloc, World.setCell]; omega))) (fun x => x = (w3.heap.size + 1 + 1) ∨ (Qin x ∧ x < wr.heap.size)) (offY' HB10.out HQY.out (by first | omega | (simp [World.size_alloc, World.setCell]; done) | (simp [World.size_alloc, World.setCell]; omega)) (by first | omega | (simp [World.size_alloc, World.setCell]; done) | (simp [World.size_alloc, World.setCell]; omega)) (by first | omega | (simp [World.size_alloc, World.setCell]; done) | (simp [World.size_alloc, World.setCell]; omega))) ?_; intro v11 w11 hc11 g11; have HC11 := Lib.hid hc11; have HL11 := Lib.hid ((HL10.out.up (by repeat (first | exact Chg.refl _ _ | apply Chg.drew | apply Chg.drewN | refine Chg.alloc ?_ _))).keep g11 (fun h9 => HOX.out _ h9 (.inl rfl))); have HN11 := Lib.hid ((HN10.out.up (by repeat (first | exact Chg.refl _ _ | apply Chg.drew | apply Chg.drewN | refine Chg.alloc ?_ _))).keep g11 (fun x hx hq h9 => HOX.out x h9 (.inr (.inl hq)))); have HU11 := Lib.hid (show Up w w11 from Chg.new (Chg.trans HU10.out (by repeat (first | exact Chg.refl _ _ | apply Chg.drew | apply Chg.drewN | refine Chg.alloc ?_ _))) g11 (fun i hi h9 => by have := HOL.out i h9; omega)); have eh2 := Chg.cell g11 (Chg.cell (S := Nowhere) (by repeat (first | exact Chg.refl _ _ | apply Chg.drew | apply Chg.drewN | refine Chg.alloc ?_ _)) eg2 id) (fun h9 => HOX.out _ h9 (.inr (.inr (Nat.le_refl _)))); have hz11 : w10.heap.size ≤ w11.heap.size := (by have := g11.size; simp [World.size_alloc] at this; omega); clear hc11 g11 eg2)
            | (at_builtin; refine wp_append_ops2 rfl _ _ rfl wr.heap.size _ [] rfl (HPS.out.up (by repeat (first | exact Chg.refl _ _ | apply Chg.drew | apply Chg.drewN | refine Chg.alloc ?_ _))) _ _ (opsC (cmpTo c j) ⟨rd, rn, rx⟩) rfl (KS.out.up (by repeat (first | exact Chg.refl _ _ | apply Chg.drew | apply Chg.drewN | refine Chg.alloc ?_ _))) HLP.out (by first | omega | (simp [World.size_alloc, World.setCell]; done) | (simp [World.size_alloc, World.setCell]; omega)) ?_; intro v10 w10 ho10 g10 b10 _; rw [← HLO.out] at ho10; obtain ⟨A10, c10, rfl, -⟩ := ho10.ops.shape; have HC10 := Lib.hid ((HCS.out.up (by repeat (first | exact Chg.refl _ _ | apply Chg.drew | apply Chg.drewN | refine Chg.alloc ?_ _))).more.keep g10 (fun x hx h9 => .inl ⟨.inr (by have := (HPW.out _ h9).1; omega), by have := (HPW.out _ h9).2; (first | omega | (simp [World.size_alloc, World.setCell]; done) | (simp [World.size_alloc, World.setCell]; omega))⟩)); have HL10 := Lib.hid ((HLS.out.up (by repeat (first | exact Chg.refl _ _ | apply Chg.drew | apply Chg.drewN | refine Chg.alloc ?_ _))).keep g10 (fun h9 => by have := (HPW.out _ h9).1; omega)); have HN10 := Lib.hid ((HNS.out.up (by repeat (first | exact Chg.refl _ _ | apply Chg.drew | apply Chg.drewN | refine Chg.alloc ?_ _))).keep g10 (fun x hx hq h9 => (HQY.out x (.inr hq)).2 h9)); have HU10 := Lib.hid (show Up w w10 from Chg.new (Chg.trans HUS.out (by repeat (first | exact Chg.refl _ _ | apply Chg.drew | apply Chg.drewN | refine Chg.alloc ?_ _))) g10 (fun i hi h9 => by have h5 := (HPW.out _ h9).1; omega)); have K10 := Lib.hid ho10.rd'; have hz10 : w9.heap.size ≤ w10.heap.size := (by have := g10.size; simp [World.size_alloc, World.setCell] at this; omega); have eg2 := Chg.cell g10 (Chg.cell (S := Nowhere) (by repeat (first | exact Chg.refl _ _ | apply Chg.drew | apply Chg.drewN | refine Chg.alloc ?_ _)) ee2 id) (fun h9 => by have := (HPW.out _ h9).1; simp only [] at this; omega); have HB10 := Lib.hid b10; clear ho10 g10 b10 ee1 ee2)
            | (go_at_call 49; (with_reducible refine (HMD.out _ _ (HIX.out.up (Chg.trans HU11.out (by repeat (first | exact Chg.refl _ _ | apply Chg.drew | apply Chg.drewN | refine Chg.alloc ?_ _))))).mono ?_); rintro e w12 ⟨rfl, u12⟩; have U12 := Lib.hid (show Up w11 w12 from Chg.trans (by repeat (first | exact Chg.refl _ _ | apply Chg.drew | apply Chg.drewN | refine Chg.alloc ?_ _)) u12); have hz12 : w11.heap.size ≤ w12.heap.size := U12.out.size; clear u12 eh2))
        go_roundw
        case rel => exact ⟨j + 1, cn1, _, _, _, rfl, rfl, rfl, by omega, by go_num, rfl, HCN1, Lib.hid ⟨(fun x => Qin x ∧ x < wr.heap.size), by rw [HIE.out]; exact HN11.out.up U12.out, by rw [HST.out.1, HST.out.2.1]; exact HC11.out.up U12.out, HQ3.out⟩, Lib.hid (by rw [HST.out.2.2]; exact HL11.out.up U12.out), Lib.hid (Chg.trans HU11.out U12.out), by omega⟩
        case measure => first | (simp [intOf]; done) | (simp [intOf]; omega)
      · have hno : (cmpTo c j).f (rn : Int) = none := by
          cases hq : (cmpTo c j).f (rn : Int) with
          | none => rfl
          | some y => exact absurd (hsn.1 (by rw [hq]; rfl)) hmem
        have HHAS := Lib.hid (fun (w : World) (S : Nat → Prop) (v : Value) (h : Ints w S v (insL c j)) => (show Calls Tryz.prog 45 #[v, .int .i64 (rn : Int)] w fun e w' => e = .returned (.bool false) ∧ w = w' from by
          have := l00Has_any w S v _ (rn : Int) h
          rw [decide_eq_false hmem] at this
          exact this))
        have HPT : Hid (partC (cmpTo c j) ⟨rd, rn, rx⟩ = [inOp rd rn]) := Lib.hid (by unfold partC; simp only [hno]; rfl)
        have HAI : Hid (at0 = inAt rd) := Lib.hid (by rw [HA0.out]; unfold carAtC; simp only [hno]; rfl)
        have HF0 : Hid (((cmpTo c j).f (rn : Int)).getD 0 = 0) := Lib.hid (by rw [hno]; rfl)
        obtain ⟨P1, HP1⟩ : ∃ P, Hid (P = ([] : List OpM) ++ [inOp rd rn]) := ⟨_, Lib.hid rfl⟩
        obtain ⟨LO, HLO⟩ : ∃ L, Hid (L = P1 ++ opsC (cmpTo c j) ⟨rd, rn, rx⟩) := ⟨_, Lib.hid rfl⟩
        have HLP : Hid (P1.length + (opsC (cmpTo c j) ⟨rd, rn, rx⟩).length ≤ 1099511627776) := Lib.hid (by rw [HP1.out]; simp; omega)
        have HOKI := Lib.hid (inOp_ok' (d := rd) (c := (rn : Int)) HR64.out.1 HRC.out)
        rw [HPT.out, show [inOp rd rn] = P1 from HP1.out.symm, ← HLO.out] at HST
        have HIN2 := Lib.hid (fun (w : World) => (show Calls Tryz.prog 42 #[.int .i64 (rn : Int), .int .i64 rd] w fun e w' => e = .returned (.tuple #[.agg #[.int .i64 8, .int .i64 rd, .int .i64 0, .int .i64 0, .int .i64 0, .int .i64 0, .int .i64 (rn : Int), .int .i64 0], .int .i64 at0]) ∧ Up w w' from by rw [HAI.out]; exact l24In_any w rn rd))
        have HPUT := Lib.hid (fun (w : World) (S : Nat → Prop) (v : Value) (h : Ints w S v (insL c j)) => (show Calls Tryz.prog 46 #[v, .int .i64 (rn : Int)] w fun e w' => ∃ v', e = .returned v' ∧ Ints w' (New w.heap.size w'.heap.size) v' (insL c (j + 1)) ∧ Up w w' from by rw [hsucc]; exact l00Put_any w S v _ _ h HRC.out HLI.out))
        have HFV : Hid (((fun z => if z = (rn : Int) then some at0 else (cmpTo c j).f z) (rn : Int)).getD 0 = at0) := Lib.hid (by simp)
        have HFE : Hid ((fun z => if z = (rn : Int) then some at1 else (fun z => if z = (rn : Int) then some at0 else (cmpTo c j).f z) z) = fun z => if z = (rn : Int) then some at1 else (cmpTo c j).f z) := Lib.hid (by funext z; by_cases e : z = (rn : Int) <;> simp [e])
        have HCA := HCB
        have HNA := HNB
        have HLA := HLB
        have HPA := HPB
        have HUA := HUB
        clear hol hdir hsn hno hmem hsucc hstep hsb HCB HNB HLB HPB HUB
        go_wp2_with (first
            | (go_at_call 45; refine (HHAS.out _ _ _ (HNA.out.up (by repeat (first | exact Chg.refl _ _ | apply Chg.drew | apply Chg.drewN | refine Chg.alloc ?_ _)))).mono ?_; rintro e w' ⟨rfl, rfl⟩)
            | (go_at_call 42; refine (HIN2.out _).mono ?_; rintro e w21 ⟨rfl, u21⟩; have UO := Lib.hid (show Up ((wr.alloc (.cells #[.int .i64 rd, .int .i64 (rn : Int), .slice A3 rx.length c3] 72)).alloc (.cells #[] 66)) (w21.alloc (.cells #[.int .i64 8, .int .i64 rd, .int .i64 0, .int .i64 0, .int .i64 0, .int .i64 0, .int .i64 (rn : Int), .int .i64 0] 66)) from Chg.alloc (Chg.trans (by repeat (first | exact Chg.refl _ _ | apply Chg.drew | apply Chg.drewN | refine Chg.alloc ?_ _)) u21) _); have hz21 : wr.heap.size + 2 ≤ w21.heap.size := (by have := u21.size; (try simp [World.size_alloc] at this); omega); have en0 := cell_new w21 #[.int .i64 8, .int .i64 rd, .int .i64 0, .int .i64 0, .int .i64 0, .int .i64 0, .int .i64 (rn : Int), .int .i64 0] 66 0; have en1 := cell_new w21 #[.int .i64 8, .int .i64 rd, .int .i64 0, .int .i64 0, .int .i64 0, .int .i64 0, .int .i64 (rn : Int), .int .i64 0] 66 1; have en2 := cell_new w21 #[.int .i64 8, .int .i64 rd, .int .i64 0, .int .i64 0, .int .i64 0, .int .i64 0, .int .i64 (rn : Int), .int .i64 0] 66 2; have en3 := cell_new w21 #[.int .i64 8, .int .i64 rd, .int .i64 0, .int .i64 0, .int .i64 0, .int .i64 0, .int .i64 (rn : Int), .int .i64 0] 66 3; have en4 := cell_new w21 #[.int .i64 8, .int .i64 rd, .int .i64 0, .int .i64 0, .int .i64 0, .int .i64 0, .int .i64 (rn : Int), .int .i64 0] 66 4; have en5 := cell_new w21 #[.int .i64 8, .int .i64 rd, .int .i64 0, .int .i64 0, .int .i64 0, .int .i64 0, .int .i64 (rn : Int), .int .i64 0] 66 5; have en6 := cell_new w21 #[.int .i64 8, .int .i64 rd, .int .i64 0, .int .i64 0, .int .i64 0, .int .i64 0, .int .i64 (rn : Int), .int .i64 0] 66 6; have en7 := cell_new w21 #[.int .i64 8, .int .i64 rd, .int .i64 0, .int .i64 0, .int .i64 0, .int .i64 0, .int .i64 (rn : Int), .int .i64 0] 66 7; have ek0 := Chg.cell UO.out eb0 id; have ek1 := Chg.cell UO.out eb1 id; have ek2 := Chg.cell UO.out eb2 id; clear u21 eb0 eb1 eb2)
            | (at_builtin; refine wp_append_op2 rfl _ _ rfl wr.heap.size _ [] rfl (HPA.out.up (Chg.trans UO.out (by repeat (first | exact Chg.refl _ _ | apply Chg.drew | apply Chg.drewN | refine Chg.alloc ?_ _)))) _ (inOp rd rn) rfl (heap_new_at (by first | omega | (simp [World.size_alloc, World.setCell]; done) | (simp [World.size_alloc, World.setCell]; omega))) HOKI.out (by simp) (by first | omega | (simp [World.size_alloc, World.setCell]; done) | (simp [World.size_alloc, World.setCell]; omega)) ?_; intro v22 w22 ho22 g22 b22 _; rw [← HP1.out] at ho22; obtain ⟨A22, c22, rfl, -⟩ := ho22.ops.shape; have HPA22 := Lib.hid ho22; have hz22 : w21.heap.size + 1 ≤ w22.heap.size := (by have := g22.size; (try simp [World.size_alloc] at this); omega); have HPW22 := Lib.hid (show ∀ x, (Value.slice A22 P1.length c22).ownBlock = some x → wr.heap.size + 1 ≤ x ∧ x < w22.heap.size from fun x h9 => ⟨(b22 x h9).elim (fun h8 => by have := HPE.out x h8; omega) (fun h8 => by (try simp [World.size_alloc] at h8); omega), (ho22.lt h9).2⟩); have ef0 := Chg.cell g22 (Chg.cell (S := Nowhere) (by repeat (first | exact Chg.refl _ _ | apply Chg.drew | apply Chg.drewN | refine Chg.alloc ?_ _)) ek0 id) (fun h9 => by have := HPE.out _ h9; simp only [] at this; omega); have ef1 := Chg.cell g22 (Chg.cell (S := Nowhere) (by repeat (first | exact Chg.refl _ _ | apply Chg.drew | apply Chg.drewN | refine Chg.alloc ?_ _)) ek1 id) (fun h9 => by have := HPE.out _ h9; simp only [] at this; omega); have ef2 := Chg.cell g22 (Chg.cell (S := Nowhere) (by repeat (first | exact Chg.refl _ _ | apply Chg.drew | apply Chg.drewN | refine Chg.alloc ?_ _)) ek2 id) (fun h9 => by have := HPE.out _ h9; simp only [] at this; omega); have GT := Lib.hid (show Chg (fun x => x = (w3.heap.size + 1 + 1)) w22 (w22.setCell ⟨(w3.heap.size + 1 + 1), rn, none⟩ (.int .i64 at0)) from Chg.setCell (Chg.refl (fun x => x = (w3.heap.size + 1 + 1)) w22) (p := ⟨(w3.heap.size + 1 + 1), rn, none⟩) (.inl rfl) _); have HCT := Lib.hid (((HCA.out.up (Chg.trans UO.out (by repeat (first | exact Chg.refl _ _ | apply Chg.drew | apply Chg.drewN | refine Chg.alloc ?_ _)))).keep g22 (fun x _ h9 => .inr (by have := HPE.out x h9; omega))).keep GT.out (fun x hx h9 => .inl (.inl h9))); have HLA22 := Lib.hid ((HLA.out.up (Chg.trans UO.out (by repeat (first | exact Chg.refl _ _ | apply Chg.drew | apply Chg.drewN | refine Chg.alloc ?_ _)))).keep g22 (fun h9 => by have := HPE.out _ h9; omega)); obtain ⟨fpl22, fz22⟩ := HLA22.out.at_ (n := rn) (by omega) HF0.out; have HLT := Lib.hid (HLA22.out.put (n := rn) (by omega) at0); have HNT := Lib.hid (((HNA.out.up (Chg.trans UO.out (by repeat (first | exact Chg.refl _ _ | apply Chg.drew | apply Chg.drewN | refine Chg.alloc ?_ _)))).keep g22 (fun x hx hq h9 => by have := HPE.out x h9; have := hq.2; omega)).keep GT.out (fun x hx hq h9 => hqp x hq.1 h9)); have HPT22 := Lib.hid (HPA22.out.kept GT.out (fun g hg h9 => by have := (HPW22.out _ hg).1; have h9 : g = (w3.heap.size + 1 + 1) := h9; omega)); have HUT := Lib.hid (show Up w (w22.setCell ⟨(w3.heap.size + 1 + 1), rn, none⟩ (.int .i64 at0)) from Chg.new (Chg.new (Chg.trans HUA.out (Chg.trans UO.out (by repeat (first | exact Chg.refl _ _ | apply Chg.drew | apply Chg.drewN | refine Chg.alloc ?_ _)))) g22 (fun i hi h9 => by have := HPE.out _ h9; omega)) GT.out (fun i hi h9 => by have h9 : i = (w3.heap.size + 1 + 1) := h9; omega)); have em0 := Chg.cell GT.out ef0 (fun h9 => by have h9 : wr.heap.size = (w3.heap.size + 1 + 1) := h9; omega); have em1 := Chg.cell GT.out ef1 (fun h9 => by have h9 : wr.heap.size = (w3.heap.size + 1 + 1) := h9; omega); have em2 := Chg.cell GT.out ef2 (fun h9 => by have h9 : wr.heap.size = (w3.heap.size + 1 + 1) := h9; omega); clear ho22 g22 b22 ek0 ek1 ek2 en0 en1 en2 en3 en4 en5 en6 en7)
            | (go_at_call 46; refine (HPUT.out _ _ _ (HNT.out.up (by repeat (first | exact Chg.refl _ _ | apply Chg.drew | apply Chg.drewN | refine Chg.alloc ?_ _)))).mono ?_; rintro e w24 ⟨v24, rfl, k24, u24⟩; obtain ⟨A24, c24, rfl, -⟩ := k24.shape; have U24 := Lib.hid (show Up (w22.setCell ⟨(w3.heap.size + 1 + 1), rn, none⟩ (.int .i64 at0)) w24 from Chg.trans (by repeat (first | exact Chg.refl _ _ | apply Chg.drew | apply Chg.drewN | refine Chg.alloc ?_ _)) u24); have hz24 : w22.heap.size ≤ w24.heap.size := (by have := U24.out.size; (try simp [World.setCell] at this); omega); have HNB := Lib.hid (k24.mono (T := fun x => w22.heap.size ≤ x ∧ x < w24.heap.size) (fun x hx hq => ⟨by have := hq.1; (try simp [World.size_alloc, World.setCell] at this); omega, hx⟩)); have HCB := Lib.hid (show Cmp w24 w.heap.size (fun x => (x = (w3.heap.size + 1 + 1) ∨ (w22.heap.size ≤ x ∧ x < w24.heap.size)) ∨ wr.heap.size ≤ x) q p (cmpTo c j).parts (cmpTo c j).plan from (HCT.out.up U24.out).less (fun x hx h9 => (by rcases h9 with (h9 | h9) | h9; exact .inl (.inl h9); exact .inr (by omega); exact .inr h9))); have HLB := Lib.hid (HLT.out.up U24.out); have HPB := Lib.hid (HPT22.out.up U24.out); have HUB := Lib.hid (Chg.trans HUT.out U24.out); have HPW := Lib.hid (show ∀ x, (Value.slice A22 P1.length c22).ownBlock = some x → wr.heap.size + 1 ≤ x ∧ x < w24.heap.size from fun x h9 => ⟨(HPW22.out x h9).1, by have := (HPW22.out x h9).2; omega⟩); have eb0 := Chg.cell U24.out em0 id; have eb1 := Chg.cell U24.out em1 id; have eb2 := Chg.cell U24.out em2 id; have fpl := (HLB.out.at_ (n := rn) HN5.out (y := at0) (by simp)).1; have HQ3 := Lib.hid (show ∀ x, (w22.heap.size ≤ x ∧ x < w24.heap.size) → x ≠ (w3.heap.size + 1 + 1) from fun x hq h9 => by omega); have HQY := Lib.hid (show ∀ x, (x = (w3.heap.size + 1 + 1) ∨ (w22.heap.size ≤ x ∧ x < w24.heap.size)) → x < w24.heap.size ∧ (Value.slice A22 P1.length c22).ownBlock ≠ some x from fun x hq => ⟨by omega, fun h9 => by have := HPW22.out x h9; omega⟩); have HOX := Lib.hid (show ∀ x, q.ownBlock = some x → ¬ (x = (w3.heap.size + 1 + 1) ∨ (w22.heap.size ≤ x ∧ x < w24.heap.size) ∨ wr.heap.size ≤ x) from fun x h9 h8 => HOX0.out x h9 (by rcases h8 with h8 | h8 | h8; exact .inl h8; exact .inr (.inr (by omega)); exact .inr (.inr h8))); clear k24 u24 em0 em1 em2 ef0 ef1 ef2 fpl22 fz22)
            | (at_builtin; refine wp_append_int2 rfl _ _ rfl w.heap.size _ (cmpTo c j).plan rfl (HCB.out.own2.up (by repeat (first | exact Chg.refl _ _ | apply Chg.drew | apply Chg.drewN | refine Chg.alloc ?_ _))) _ at0 rfl (cell_at (by simp [World.size_alloc]) rfl) HA64.out HPL.out (by first | omega | (simp [World.size_alloc, World.setCell]; done) | (simp [World.size_alloc, World.setCell]; omega)) ?_; intro v7 w7 ho7 g7 b7 _; have HC7 := Lib.hid (Cmp.planned (HCB.out.up (by repeat (first | exact Chg.refl _ _ | apply Chg.drew | apply Chg.drewN | refine Chg.alloc ?_ _))) ho7 g7 b7); have HL7 := Lib.hid ((HLB.out.up (by repeat (first | exact Chg.refl _ _ | apply Chg.drew | apply Chg.drewN | refine Chg.alloc ?_ _))).keep g7 (fun h9 => HCB.out.off2 _ h9 (.inl (.inl rfl)))); have HN7 := Lib.hid ((HNB.out.up (by repeat (first | exact Chg.refl _ _ | apply Chg.drew | apply Chg.drewN | refine Chg.alloc ?_ _))).keep g7 (fun x hx hq h9 => HCB.out.off2 x h9 (.inl (.inr hq)))); have HP7 := Lib.hid ((HPB.out.up (by repeat (first | exact Chg.refl _ _ | apply Chg.drew | apply Chg.drewN | refine Chg.alloc ?_ _))).kept g7 (fun g hg h9 => HCB.out.off2 _ h9 (.inr (by have := (HPW.out _ hg).1; omega)))); have ec0 := Chg.cell g7 (Chg.cell (S := Nowhere) (by repeat (first | exact Chg.refl _ _ | apply Chg.drew | apply Chg.drewN | refine Chg.alloc ?_ _)) eb0 id) (fun h9 => HCB.out.off2 _ h9 (.inr (Nat.le_refl _))); have ec1 := Chg.cell g7 (Chg.cell (S := Nowhere) (by repeat (first | exact Chg.refl _ _ | apply Chg.drew | apply Chg.drewN | refine Chg.alloc ?_ _)) eb1 id) (fun h9 => HCB.out.off2 _ h9 (.inr (Nat.le_refl _))); have ec2 := Chg.cell g7 (Chg.cell (S := Nowhere) (by repeat (first | exact Chg.refl _ _ | apply Chg.drew | apply Chg.drewN | refine Chg.alloc ?_ _)) eb2 id) (fun h9 => HCB.out.off2 _ h9 (.inr (Nat.le_refl _))); have HU7 := Lib.hid (show Up w w7 from Chg.new (Chg.trans HUB.out (by repeat (first | exact Chg.refl _ _ | apply Chg.drew | apply Chg.drewN | refine Chg.alloc ?_ _))) g7 (fun i hi h9 => by have := (HCB.out.own2.lt h9).1; omega)); have hz7 : w24.heap.size + 1 ≤ w7.heap.size := (by have := g7.size; (try simp [World.size_alloc] at this ⊢); omega); have HRV := Lib.hid (show RowV w7 _ (.agg #[.int .i64 rd, .int .i64 (rn : Int), .slice A3 rx.length c3]) ⟨rd, rn, rx⟩ from ⟨_, rfl, HIX.out.up HU7.out, HR64.out⟩); clear ho7 g7 b7 eb0 eb1 eb2)
            | (go_at_call 47; (with_reducible refine (HRO.out _ _ _ (HRV.out.up (by repeat (first | exact Chg.refl _ _ | apply Chg.drew | apply Chg.drewN | refine Chg.alloc ?_ _)))).mono ?_); rintro e w8 ⟨v8, rfl, k8, u8⟩; obtain ⟨A8, c8, rfl, hl8', hc8, -⟩ := k8.shape; have K8 := Lib.hid k8; have U8 := Lib.hid (show Up w7 w8 from Chg.trans (by repeat (first | exact Chg.refl _ _ | apply Chg.drew | apply Chg.drewN | refine Chg.alloc ?_ _)) u8); have HRV8 := Lib.hid (HRV.out.up U8.out); have ed0 := Chg.cell U8.out ec0 id; have ed1 := Chg.cell U8.out ec1 id; have ed2 := Chg.cell U8.out ec2 id; have hz8 : w7.heap.size ≤ w8.heap.size := U8.out.size; clear k8 u8 ec0 ec1 ec2)
            | (go_at_call 48; (with_reducible refine (HCA1.out _ _ _ (HRV8.out.up (by repeat (first | exact Chg.refl _ _ | apply Chg.drew | apply Chg.drewN | refine Chg.alloc ?_ _)))).mono ?_); rintro e w9 ⟨rfl, u9⟩; have U9 := Lib.hid (show Up w8 w9 from Chg.trans (by repeat (first | exact Chg.refl _ _ | apply Chg.drew | apply Chg.drewN | refine Chg.alloc ?_ _)) u9); have U79 := Lib.hid (Chg.trans U8.out U9.out); have hz9 : w8.heap.size ≤ w9.heap.size := U9.out.size; have GS := Lib.hid (show Chg (fun x => x = (w3.heap.size + 1 + 1)) w9 (w9.setCell ⟨(w3.heap.size + 1 + 1), rn, none⟩ (.int .i64 at1)) from Chg.setCell (Chg.refl (fun x => x = (w3.heap.size + 1 + 1)) w9) (p := ⟨(w3.heap.size + 1 + 1), rn, none⟩) (.inl rfl) _); have HCS := Lib.hid ((HC7.out.up U79.out).keep GS.out (fun x hx h9 => ⟨.inl (.inl h9), by have h9 : x = (w3.heap.size + 1 + 1) := h9; (first | omega | (simp [World.size_alloc, World.setCell]; done) | (simp [World.size_alloc, World.setCell]; omega))⟩)); have HL9 := Lib.hid (HL7.out.up U79.out); have fpl9 := (HL9.out.at_ (n := rn) HN5.out (y := at0) (by first | exact HFV.out | simp)).1; have fz9 := (HL9.out.at_ (n := rn) HN5.out (y := at0) (by first | exact HFV.out | simp)).2; have HLS := Lib.hid (HL9.out.put (n := rn) (by omega) at1); have HNS := Lib.hid ((HN7.out.up U79.out).keep GS.out (fun x hx hq h9 => HQ3.out x hq h9)); have HPS := Lib.hid ((HP7.out.up U79.out).kept GS.out (fun g hg h9 => by have := (HPW.out _ hg).1; have h9 : g = (w3.heap.size + 1 + 1) := h9; omega)); have KS := Lib.hid ((K8.out.up U9.out).keep GS.out (fun x hx h1 h2 => by have := h1.1; have h2 : x = (w3.heap.size + 1 + 1) := h2; (first | omega | (simp [World.size_alloc, World.setCell]; done) | (simp [World.size_alloc, World.setCell]; omega)))); have HUS := Lib.hid (show Up w (w9.setCell ⟨(w3.heap.size + 1 + 1), rn, none⟩ (.int .i64 at1)) from Chg.new (Chg.trans HU7.out U79.out) GS.out (fun i hi h9 => by have h9 : i = (w3.heap.size + 1 + 1) := h9; omega)); have ee1 := Chg.cell U9.out ed1 id; have ee2 := Chg.cell GS.out (Chg.cell U9.out ed2 id) (fun h9 => by have h9 : wr.heap.size = (w3.heap.size + 1 + 1) := h9; omega); have hzS : w9.heap.size = (w9.setCell ⟨(w3.heap.size + 1 + 1), rn, none⟩ (.int .i64 at1)).heap.size := (by simp [World.setCell]); clear u9 ed0 ed1 ed2)
            | (at_builtin; refine wp_append_cmp rfl _ _ rfl w.heap.size _ _ _ v7 (cmpTo c j).parts ((cmpTo c j).plan ++ [at0]) rfl (HC10.out.up (by repeat (first | exact Chg.refl _ _ | apply Chg.drew | apply Chg.drewN | refine Chg.alloc ?_ _))) _ _ LO rfl (cell_at (by simp [World.size_alloc]) rfl) (K10.out.up (by repeat (first | exact Chg.refl _ _ | apply Chg.drew | apply Chg.drewN | refine Chg.alloc ?_ _))) (offS' HB10.out HPW.out hzu (by first | omega | (simp [World.size_alloc, World.setCell]; done) | (simp [World.size_alloc, World.setCell]; omega)) _) HPN.out (by have := HU10.out.size; (first | omega | (simp [World.size_alloc, World.setCell]; done) | (simp [World.size_alloc, World.setCell]; omega))) (fun x => x = (w3.heap.size + 1 + 1) ∨ (w22.heap.size ≤ x ∧ x < w24.heap.size)) (offY' HB10.out HQY.out (by first | omega | (simp [World.size_alloc, World.setCell]; done) | (simp [World.size_alloc, World.setCell]; omega)) (by first | omega | (simp [World.size_alloc, World.setCell]; done) | (simp [World.size_alloc, World.setCell]; omega)) (by first | omega | (simp [World.size_alloc, World.setCell]; done) | (simp [World.size_alloc, World.setCell]; omega))) ?_; intro v11 w11 hc11 g11; have HC11 := Lib.hid hc11; have HL11 := Lib.hid ((HL10.out.up (by repeat (first | exact Chg.refl _ _ | apply Chg.drew | apply Chg.drewN | refine Chg.alloc ?_ _))).keep g11 (fun h9 => HOX.out _ h9 (.inl rfl))); have HN11 := Lib.hid ((HN10.out.up (by repeat (first | exact Chg.refl _ _ | apply Chg.drew | apply Chg.drewN | refine Chg.alloc ?_ _))).keep g11 (fun x hx hq h9 => HOX.out x h9 (.inr (.inl hq)))); have HU11 := Lib.hid (show Up w w11 from Chg.new (Chg.trans HU10.out (by repeat (first | exact Chg.refl _ _ | apply Chg.drew | apply Chg.drewN | refine Chg.alloc ?_ _))) g11 (fun i hi h9 => by have := HOL.out i h9; omega)); have eh2 := Chg.cell g11 (Chg.cell (S := Nowhere) (by repeat (first | exact Chg.refl _ _ | apply Chg.drew | apply Chg.drewN | refine Chg.alloc ?_ _)) eg2 id) (fun h9 => HOX.out _ h9 (.inr (.inr (Nat.le_refl _)))); have hz11 : w10.heap.size ≤ w11.heap.size := (by have := g11.size; simp [World.size_alloc] at this; omega); clear hc11 g11 eg2)
            | (at_builtin; refine wp_append_ops2 rfl _ _ rfl wr.heap.size _ P1 rfl (HPS.out.up (by repeat (first | exact Chg.refl _ _ | apply Chg.drew | apply Chg.drewN | refine Chg.alloc ?_ _))) _ _ (opsC (cmpTo c j) ⟨rd, rn, rx⟩) rfl (KS.out.up (by repeat (first | exact Chg.refl _ _ | apply Chg.drew | apply Chg.drewN | refine Chg.alloc ?_ _))) HLP.out (by first | omega | (simp [World.size_alloc, World.setCell]; done) | (simp [World.size_alloc, World.setCell]; omega)) ?_; intro v10 w10 ho10 g10 b10 _; rw [← HLO.out] at ho10; obtain ⟨A10, c10, rfl, -⟩ := ho10.ops.shape; have HC10 := Lib.hid ((HCS.out.up (by repeat (first | exact Chg.refl _ _ | apply Chg.drew | apply Chg.drewN | refine Chg.alloc ?_ _))).more.keep g10 (fun x hx h9 => .inl ⟨.inr (by have := (HPW.out _ h9).1; omega), by have := (HPW.out _ h9).2; (first | omega | (simp [World.size_alloc, World.setCell]; done) | (simp [World.size_alloc, World.setCell]; omega))⟩)); have HL10 := Lib.hid ((HLS.out.up (by repeat (first | exact Chg.refl _ _ | apply Chg.drew | apply Chg.drewN | refine Chg.alloc ?_ _))).keep g10 (fun h9 => by have := (HPW.out _ h9).1; omega)); have HN10 := Lib.hid ((HNS.out.up (by repeat (first | exact Chg.refl _ _ | apply Chg.drew | apply Chg.drewN | refine Chg.alloc ?_ _))).keep g10 (fun x hx hq h9 => (HQY.out x (.inr hq)).2 h9)); have HU10 := Lib.hid (show Up w w10 from Chg.new (Chg.trans HUS.out (by repeat (first | exact Chg.refl _ _ | apply Chg.drew | apply Chg.drewN | refine Chg.alloc ?_ _))) g10 (fun i hi h9 => by have h5 := (HPW.out _ h9).1; omega)); have K10 := Lib.hid ho10.rd'; have hz10 : w9.heap.size ≤ w10.heap.size := (by have := g10.size; simp [World.size_alloc, World.setCell] at this; omega); have eg2 := Chg.cell g10 (Chg.cell (S := Nowhere) (by repeat (first | exact Chg.refl _ _ | apply Chg.drew | apply Chg.drewN | refine Chg.alloc ?_ _)) ee2 id) (fun h9 => by have := (HPW.out _ h9).1; simp only [] at this; omega); have HB10 := Lib.hid b10; clear ho10 g10 b10 ee1 ee2)
            | (go_at_call 49; (with_reducible refine (HMD.out _ _ (HIX.out.up (Chg.trans HU11.out (by repeat (first | exact Chg.refl _ _ | apply Chg.drew | apply Chg.drewN | refine Chg.alloc ?_ _))))).mono ?_); rintro e w12 ⟨rfl, u12⟩; have U12 := Lib.hid (show Up w11 w12 from Chg.trans (by repeat (first | exact Chg.refl _ _ | apply Chg.drew | apply Chg.drewN | refine Chg.alloc ?_ _)) u12); have hz12 : w11.heap.size ≤ w12.heap.size := U12.out.size; clear u12 eh2))
        go_roundw
        case rel => exact ⟨j + 1, cn1, _, _, _, rfl, rfl, rfl, by omega, by go_num, rfl, HCN1, Lib.hid ⟨(fun x => w22.heap.size ≤ x ∧ x < w24.heap.size), HN11.out.up U12.out, by rw [HST.out.1, HST.out.2.1]; exact HC11.out.up U12.out, HQ3.out⟩, Lib.hid (by rw [HST.out.2.2, show (fun z => if z = (rn : Int) then some at1 else (cmpTo c j).f z) = (fun z => if z = (rn : Int) then some at1 else (fun z => if z = (rn : Int) then some at0 else (cmpTo c j).f z) z) from by funext z; by_cases e : z = (rn : Int) <;> simp [e]]; exact HL11.out.up U12.out), Lib.hid (Chg.trans HU11.out U12.out), by omega⟩
        case measure => first | (simp [intOf]; done) | (simp [intOf]; omega)
    · obtain rfl : j = c.rs.length := by omega
      obtain ⟨wo, rfl⟩ : ∃ x, x = wr := ⟨_, rfl⟩
      obtain ⟨LC, HLC⟩ : ∃ L, Hid (L = insL c c.rs.length) := ⟨_, Lib.hid rfl⟩
      have hlc : LC.length ≤ 9 := by rw [HLC.out]; have := insL_len c c.rs.length (Nat.le_refl _); omega
      rw [← HLC.out] at hin
      have HEND : Hid (partsM c = (cmpTo c c.rs.length).parts ++ [outsTo LC LC.length] ∧ planQ c = (cmpTo c c.rs.length).plan) := Lib.hid (by unfold partsM endC planQ; rw [HLC.out, insL_end c hl1]; exact ⟨rfl, rfl⟩)
      obtain ⟨AN, cN, rfl, hlN, hcN, -⟩ := hin.shape
      have HIN := Lib.hid (hin.mono (T := fun x => x < wo.heap.size) (fun x hx _ => hx))
      have HC := Lib.hid hc
      clear hin hc
      go_wp2
      go_loopw [26, 27] (fun e0 i wl => ∃ (t : Nat) (en : Value), en = e0 ∧ t ≤ LC.length ∧ i = .int .i64 t ∧ Hid (OwnO wl wo.heap.size en (outsTo LC t)) ∧ Hid (Ints wl (fun x => x < wo.heap.size) (.slice AN LC.length cN) LC) ∧ Hid (Up wo wl)) (fun _ i _ => LC.length - (intOf i).toNat)
      case atStart => exact ⟨0, _, rfl, by omega, rfl, Lib.hid (OwnO.made wo _ (Nat.le_refl _)), Lib.hid (HIN.out.up ((Chg.refl _ _).alloc _)), Lib.hid ((Chg.refl _ _).alloc _)⟩
      case round =>
        obtain ⟨t, en, rfl, ht, rfl, he, hkk, hul⟩ := hrel
        have hwl : wo.heap.size ≤ wr.heap.size := hul.out.size
        by_cases htl : t < LC.length
        · obtain ⟨A9, c9, he9, -, -, h64, hr9, -⟩ := hkk.out
          obtain ⟨rfl, rfl⟩ : AN = A9 ∧ cN = c9 := by simpa using he9
          obtain ⟨b9, o9, rfl, -, -, hcell⟩ := hr9 (by omega)
          have fy := (hcell t htl).1
          obtain ⟨y, hy⟩ : ∃ y, y = LC[t] := ⟨_, rfl⟩
          have HY := Lib.hid (h64 _ (List.getElem_mem htl))
          rw [← hy] at fy HY
          have HOT : Hid (outsTo LC (t + 1) = outsTo LC t ++ [outOp y]) := Lib.hid (by rw [outsTo_succ htl, ← hy])
          have HOK2 := Lib.hid (outOp_ok' HY.out)
          have HLT : Hid ((outsTo LC t).length ≤ 1099511627775) := Lib.hid (by rw [outsTo_length ht]; omega)
          clear he9 h64 hr9 hcell hy
          go_wp2_with (first | (at_builtin; refine wp_append_op2 rfl _ _ rfl wo.heap.size _ (outsTo LC t) rfl (he.out.up (by repeat (first | exact Chg.refl _ _ | apply Chg.drew | apply Chg.drewN | refine Chg.alloc ?_ _))) _ (outOp y) rfl (heap_new_at (by simp [World.size_alloc])) HOK2.out HLT.out (by simp [World.size_alloc]; omega) ?_; intro v31 w31 ho31 g31 b31 h31; have HO31 := Lib.hid ho31; have HK31 := Lib.hid ((hkk.out.up (by repeat (first | exact Chg.refl _ _ | apply Chg.drew | apply Chg.drewN | refine Chg.alloc ?_ _))).keep g31 (fun x _ h8 h9 => by have := (he.out.lt h9).1; omega)); have HU31 := Lib.hid (show Up wo w31 from Chg.new (Chg.trans hul.out (by repeat (first | exact Chg.refl _ _ | apply Chg.drew | apply Chg.drewN | refine Chg.alloc ?_ _))) h31 (fun i hi h9 => by omega)); clear ho31 g31 b31 h31))
          go_roundw
          case rel => exact ⟨t + 1, _, rfl, by omega, by go_num, Lib.hid (by rw [HOT.out]; exact HO31.out), HK31, HU31⟩
          case measure => first | (simp [intOf]; done) | (simp [intOf]; omega)
        · obtain rfl : t = LC.length := by omega
          obtain ⟨A32, c32, rfl, -⟩ := he.out.ops.shape
          have HCE := Lib.hid (HC.out.more.up hul.out)
          have HPN : Hid ((cmpTo c c.rs.length).parts.length ≤ 1099511627) := Lib.hid (by rw [parts_length]; omega)
          have HUW := Lib.hid (Chg.trans hu.out hul.out)
          go_wp2_with (first | (at_builtin; refine wp_append_cmp rfl _ _ rfl w.heap.size _ _ _ p (cmpTo c c.rs.length).parts (cmpTo c c.rs.length).plan rfl (HCE.out.up (by repeat (first | exact Chg.refl _ _ | apply Chg.drew | apply Chg.drewN | refine Chg.alloc ?_ _))) _ _ (outsTo LC LC.length) rfl (cell_at (by simp [World.size_alloc]) rfl) (he.out.rd'.up (by repeat (first | exact Chg.refl _ _ | apply Chg.drew | apply Chg.drewN | refine Chg.alloc ?_ _))) (fun x _ h9 => ⟨by have := h9.2.1; omega, .inr h9.2.1⟩) HPN.out (by simp [World.size_alloc]; omega) (fun _ => False) (fun x h => h.elim) ?_; intro v33 w33 hc33 g33; have HC33 := Lib.hid hc33; have HU33 := Lib.hid (show Up w w33 from Chg.new (Chg.trans HUW.out (by repeat (first | exact Chg.refl _ _ | apply Chg.drew | apply Chg.drewN | refine Chg.alloc ?_ _))) g33 (fun i hi h9 => by have := HC.out.lt1 h9; omega)); clear hc33 g33))
          go_ret2
          refine ⟨_, _, rfl, ?_, ?_, HU33.out⟩
          · rw [HEND.out.1]
            exact HC33.out.own1.ss
          · rw [HEND.out.2]
            exact HC33.out.own2.ints
end Go.Proofs.YtnjfhpgmogopnaaGreat
