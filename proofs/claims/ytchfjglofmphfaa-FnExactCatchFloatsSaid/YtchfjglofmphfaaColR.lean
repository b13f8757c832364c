/- The reference's chart of a colour chart. No condition. -/
import Derived.Test.YtchfjglofmphfaaPD13
import Derived.Test.YtchfjglofmphfaaPD14
import Derived.Test.YtchfjglofmphfaaPD15
import Derived.Deep.DeepCutAuto
import Derived.Deep.CutRange
import Derived.Deep.CutBlock
set_option linter.unusedSimpArgs false
set_option linter.unusedVariables false
set_option maxRecDepth 100000
set_option maxHeartbeats 4000000
namespace Go.Proofs.Ytchfjglofmphfaa
open Go.ChangeShapes Go.WideShapes Go.ChangeAt Go.RowKit
/-- the reference's chart under construction -/
structure RefSt (wf w : World) (b6 bd : Nat) (n : Int) (s : ColS) (v : Value) : Prop where
  c0 : CellF w ⟨b6, 0, none⟩ (.int .i64 n)
  c1 : CellF w ⟨b6, 1, none⟩ v
  dr : Ints w (fun b => b = bd) (.slice (some ⟨bd, 0, none⟩) 4 4) s.ds
  rs : OwnR w wf.heap.size v s.rs
  ch : Chg (fun b => b = b6 ∨ b = bd) wf w
theorem RefSt.up {wf w w' : World} {b6 bd : Nat} {n : Int} {s : ColS} {v : Value} (h : RefSt wf w b6 bd n s v) (u : Up w w') : RefSt wf w' b6 bd n s v :=
  ⟨CellF.up u h.c0, CellF.up u h.c1, h.dr.up u, h.rs.up u, Chg.trans h.ch (Chg.of_up u)⟩
theorem colK_noR {most : Int} {row : List Int} {s : ColS} {k : Nat} (h : ¬ ((k : Int) + 1) ∈ row) : colK most row s k = s := if_neg h
theorem colK_yesR {most : Int} {row : List Int} {s : ColS} {k : Nat} (h : ((k : Int) + 1) ∈ row) : colK most row s k = ⟨s.rs ++ [⟨dirOf s k, (k : Int) + 1, stitM row ((k : Int) + 1) most⟩], s.ds.set k (dirOf s k)⟩ := if_pos h
theorem up_ofR {S : Nat → Prop} {a b c : World} (_ : Chg S b c) (u : Up a b) : Up a b := u
theorem Chg.newSR {S T : Nat → Prop} {a b c : World} (h : Chg S a b) (k : Chg T b c) (hT : ∀ i, i < a.heap.size → ¬ T i) : Chg S a c :=
  ⟨k.os.trans h.os, k.tape.trans h.tape, k.output.trans h.output, Nat.le_trans h.size k.size, fun i hi hn => (k.block i (Nat.lt_of_lt_of_le hi h.size) (hT i hi)).trans (h.block i hi hn)⟩
/-- the row is appended: the reference's chart is one row longer -/
theorem RefSt.fin {wf w1 wr w2 w' : World} {b6 bd : Nat} {n : Int} {s s' : ColS} {v v' : Value} (h : RefSt wf w1 b6 bd n s v) (hb : b6 ≠ bd ∧ b6 < wf.heap.size ∧ bd < wf.heap.size) (hu : Chg (fun b => b = bd) w1 wr) (hn : Ints wr (fun b => b = bd) (.slice (some ⟨bd, 0, none⟩) 4 4) s'.ds) (hw : Up wr w2) (hg : Chg (fun b => v.ownBlock = some b) w2 w') (hr : OwnR w' wf.heap.size v' s'.rs) :
    RefSt wf (w'.setCell ⟨b6, 1, none⟩ v') b6 bd n s' v' := by
  obtain ⟨h1, h2, h3⟩ := hb
  have ho : ∀ b, b < wf.heap.size → ¬ v.ownBlock = some b := fun b hb e => by have := (h.rs.lt e).1; omega
  have CG : Chg (fun b => b = b6) w' (w'.setCell ⟨b6, 1, none⟩ v') := Chg.setCell (Chg.refl (fun b => b = b6) w') (p := ⟨b6, 1, none⟩) (.inl (show b6 = b6 from rfl)) _
  have c1 := CellF.keep hg (CellF.up hw (CellF.keep hu h.c1 (fun e => h1 e))) (ho b6 h2)
  have c0 := CellF.keep hg (CellF.up hw (CellF.keep hu h.c0 (fun e => h1 e))) (ho b6 h2)
  refine ⟨CellF.set_ne c0 (fun e => by injection e with _ e2; omega), CellF.set c1, (((hn.up hw).keep hg (fun b _ e k => ho b (by have e : b = bd := e; omega) k)).keep CG (fun b _ e k => by have e : b = bd := e; have k : b = b6 := k; omega)), hr.kept CG (fun b hb _ e => by have e : b = b6 := e; omega), ?_⟩
  exact Chg.trans (Chg.newSR (Chg.trans (Chg.trans h.ch (hu.mono (fun b _ e => .inr e))) (Chg.of_up hw)) hg (fun i hi => ho i hi)) (CG.mono (fun b _ e => .inl e))
theorem l19Chart_any (w : World) (M H L : Nat → Prop) (bc : Nat) (c : ColM) (A : Option Addr) (kk : Nat) (q0 : w.cell? ⟨bc, 0, none⟩ = some (.int .i64 c.n)) (q1 : w.cell? ⟨bc, 1, none⟩ = some (.slice A c.rs.length kk)) (h0 : IntSSV w M H L (.slice A c.rs.length kk) c.rs) (hlk : c.rs.length ≤ kk ∧ kk ≤ 9223372036854775807) (hn : I64 c.n) (hl : c.rs.length ≤ 1000) (hr : ∀ i (hi : i < c.rs.length), c.rs[i].length ≤ 1000) (most : Int) (hm : 0 ≤ most ∧ most ≤ 8) :
    Calls Try.prog 67 #[.pointer (some ⟨bc, 0, none⟩), .int .i64 most] w fun e w' => ∃ u, e = .returned (.tuple #[u, .int .i64 (if chartB (chartC c most) then 0 else 5)]) ∧ ChartX w' (New w.heap.size w'.heap.size) u (if chartB (chartC c most) then chartC c most else ⟨0, []⟩) ∧ Up w w' := by
  obtain ⟨hlk, hkm⟩ := hlk
  have H0 := Lib.hid h0
  have HR := Lib.hid hr
  have HM := Lib.hid hm
  have HN := Lib.hid hn
  have Q1 := Lib.hid q1
  clear h0 hr hm hn
  have r0 := Chg.cell (Chg.alloc (Chg.refl Nowhere w) (.cells #[.int .i64 0, .slice none 0 0] 47)) q0 id
  have r1 := Chg.cell (Chg.alloc (Chg.alloc (Chg.refl Nowhere w) (.cells #[.int .i64 0, .slice none 0 0] 47)) (.cells #[.int .i64 0, .slice none 0 0] 47)) q0 id
  obtain ⟨i0, hi, hz0, hz1, hz2⟩ := info_parts info2
  have hmk : ∀ u : World, (Instr.makeSlice 25 (.int .i64 4) (.int .i64 4)).run Try.prog u = .ok (.slice (some ⟨u.heap.size, 0, none⟩) 4 4) (u.alloc (.cells (madeCells #[.int .i64 0] 4) 2)) := fun u => by
    have h := run_make (P := Try.prog) u 25 2 i0 (.int .i64 0) Try.underlying25 hi hz0 .i64 .i64 (4 : Int) (4 : Int) (by omega) (Int.le_refl _) (by rw [hz2]; omega) (by omega)
    simpa [hz1, Value.cells] using h
  clear hi hz0 hz1 hz2
  go_enter Try.func67, Try.ntmps67
  go_wp2_with fail
  obtain ⟨wf, hwf⟩ : ∃ x, x = (((w.alloc (.cells #[.int .i64 0, .slice none 0 0] 47)).alloc (.cells #[.int .i64 c.n, .slice none 0 0] 47)).alloc (.cells (madeCells #[.int .i64 0] 4) 2)) := ⟨_, rfl⟩
  obtain ⟨b6, hb6⟩ : ∃ b, b = w.heap.size + 1 := ⟨_, rfl⟩
  obtain ⟨bd, hbd⟩ : ∃ b, b = b6 + 1 := ⟨_, rfl⟩
  have UF := Lib.hid (show Up w wf by rw [hwf]; exact (((Chg.refl Nowhere w).alloc _).alloc _).alloc _)
  have z0 := (show CellF wf ⟨w.heap.size, 0, none⟩ (.int .i64 0) by rw [hwf]; exact CellF.up ((Chg.refl _ _).alloc _) (CellF.up ((Chg.refl _ _).alloc _) (cellF_at rfl rfl)))
  have z1 := (show CellF wf ⟨w.heap.size, 1, none⟩ (.slice none 0 0) by rw [hwf]; exact CellF.up ((Chg.refl _ _).alloc _) (CellF.up ((Chg.refl _ _).alloc _) (cellF_at rfl rfl)))
  have y0 := (show CellF wf ⟨b6, 0, none⟩ (.int .i64 c.n) by rw [hwf, hb6]; exact CellF.up ((Chg.refl _ _).alloc _) (cellF_at (by simp) rfl))
  have y1 := (show CellF wf ⟨b6, 1, none⟩ (.slice none 0 0) by rw [hwf, hb6]; exact CellF.up ((Chg.refl _ _).alloc _) (cellF_at (by simp) rfl))
  have yd := (show Ints wf (fun b => b = bd) (.slice (some ⟨bd, 0, none⟩) 4 4) [0, 0, 0, 0] by rw [hwf, hbd, hb6]; have h := Ints.zeros ((w.alloc (.cells #[.int .i64 0, .slice none 0 0] 47)).alloc (.cells #[.int .i64 c.n, .slice none 0 0] 47)) (fun b => b = w.heap.size + 1 + 1) 4 2 (by omega) (by simp); rw [World.size_alloc, World.size_alloc] at h; exact h)
  have hzf : wf.heap.size = w.heap.size + 3 := by rw [hwf]; simp
  have HBB := Lib.hid (show b6 = w.heap.size + 1 ∧ bd = w.heap.size + 2 ∧ wf.heap.size = w.heap.size + 3 from ⟨hb6, by omega, hzf⟩)
  rw [← hwf, ← hb6, ← hbd]
  have ST := Lib.hid (show RefSt wf wf b6 bd c.n (colTo most c.rs 0) (.slice none 0 0) from ⟨y0, y1, yd, OwnR.nil _ _, Chg.refl _ _⟩)
  have Z0 := Lib.hid z0
  have Z1 := Lib.hid z1
  have UW := Lib.hid (fun (W : World) (h : Chg (fun b => b = b6 ∨ b = bd) wf W) => (show Up w W from Chg.new UF.out h (fun i hi e => by have := HBB.out; rcases e with e | e <;> omega)))
  clear r0 r1 q0 q1 z0 z1 y0 y1 yd hb6 hbd hzf hwf hmk
  go_loopw [8, 9, 43, 60] (fun i _ _ _ wr => ∃ (t : Nat) (v : Value), t ≤ c.rs.length ∧ i = .int .i64 t ∧ Hid (RefSt wf wr b6 bd c.n (colTo most c.rs t) v)) (fun i _ _ _ _ => c.rs.length - (intOf i).toNat)
  case atStart => exact ⟨0, _, by omega, rfl, ST⟩
  clear ST
  case round =>
    obtain ⟨t, v, ht, rfl, hst⟩ := hrel
    have hok0 := Lib.hid (colTo_ok most c.rs t)
    have r1 := Chg.cell (UW.out _ hst.out.ch) Q1.out id
    by_cases htl : t < c.rs.length
    · obtain ⟨b, o, k1, vs, he, -, -, -, hE, hc⟩ := H0.out.at_ htl
      obtain ⟨rfl, rfl⟩ : A = some ⟨b, o, none⟩ ∧ kk = k1 := by simpa using he
      obtain ⟨A3, k3, rfl, hv, hk3, hk3m⟩ := hE
      have f0 := (show w.cell? ⟨b, o + t, none⟩ = _ by have := (hc 0 _ rfl).1; simpa only [Nat.mul_one, Nat.add_zero] using this)
      clear hc he
      obtain ⟨row, hrow⟩ : ∃ row, row = c.rs[t] := ⟨_, rfl⟩
      have hrl : row.length ≤ 1000 := by rw [hrow]; exact HR.out t htl
      rw [← hrow] at hv hk3 f0
      have HRW := Lib.hid (hrow.trans (colAt_eq htl).symm)
      have HV := Lib.hid hv
      have F0 := Lib.hid f0
      clear hrow hv f0
      go_wp2
      go_loopw [9, 43, 60] (fun a _ _ wx => ∃ (k : Nat) (v : Value), k ≤ 4 ∧ a = .int .i64 ((k : Int) + 1) ∧ Hid (RefSt wf wx b6 bd c.n (colRow most row (colTo most c.rs t) k) v)) (fun a _ _ _ => 5 - (intOf a).toNat)
      case atStart => exact ⟨0, v, by omega, rfl, hst⟩
      clear hst r1
      case round =>
        obtain ⟨k, v, hk, rfl, hst⟩ := hrel
        have r1 := Chg.cell (UW.out _ hst.out.ch) Q1.out id
        have f0 := Chg.cell (UW.out _ hst.out.ch) F0.out id
        by_cases hkl : k < 4
        rotate_left
        · obtain rfl : k = 4 := by omega
          go_wp2
          go_roundw
          case rel => exact ⟨t + 1, v, by omega, by go_num, by rw [colTo, ← HRW.out]; exact hst⟩
          case measure => first | (simp [intOf]; done) | (simp [intOf]; omega)
        have hdm : decide ((k : Int) + 1 ≤ 4) = true := decide_eq_true (by omega)
        have hok := colRow_ok (row := row) (most := most) hok0.out k (by omega)
        obtain ⟨s, hs⟩ : ∃ s, s = colRow most row (colTo most c.rs t) k := ⟨_, rfl⟩
        rw [← hs] at hst hok
        have HS := Lib.hid (show colRow most row (colTo most c.rs t) (k + 1) = colK most row s k by rw [hs]; rfl)
        have HOK := Lib.hid hok
        clear hs hok
        have U := Lib.hid (UW.out _ hst.out.ch)
        go_wp2_with fail
        refine (l00HasU_any _ L _ row ((k : Int) + 1) (HV.out.up (Chg.trans U.out (by repeat (first | exact Chg.refl _ _ | apply Chg.drew | apply Chg.drewN | refine Chg.alloc ?_ _))))).mono ?_
        rintro e w1 ⟨rfl, g1⟩
        have hst1 := Lib.hid (hst.out.up (show Up wr w1 from Chg.trans (by repeat (first | exact Chg.refl _ _ | apply Chg.drew | apply Chg.drewN | refine Chg.alloc ?_ _)) g1))
        clear g1 hst U r1 f0
        have r1 := Chg.cell (UW.out _ hst1.out.ch) Q1.out id
        have f0 := Chg.cell (UW.out _ hst1.out.ch) F0.out id
        by_cases hmem : ((k : Int) + 1) ∈ row
        rotate_left
        · have hdd : decide (((k : Int) + 1) ∈ row) = false := decide_eq_false hmem
          have HN := Lib.hid (colK_noR (most := most) (s := s) hmem)
          clear hmem
          go_wp2
          go_roundw
          case rel => exact ⟨k + 1, v, by omega, by go_num, by rw [HS.out, HN.out]; exact hst1⟩
          case measure => first | (simp [intOf]; done) | (simp [intOf]; omega)
        have hdd : decide (((k : Int) + 1) ∈ row) = true := decide_eq_true hmem
        have HY := Lib.hid (colK_yesR (most := most) (s := s) hmem)
        obtain ⟨d0, hd0⟩ : ∃ d0, d0 = s.ds.getD k 0 := ⟨_, rfl⟩
        have hd0b : -1 ≤ d0 ∧ d0 ≤ 1 := by rw [hd0]; exact HOK.out.2.1 k hkl
        have hdir := dirOf_bd HOK.out hkl
        have HDE := Lib.hid (show dirOf s k = if d0 ≠ 0 then -d0 else if s.rs.length = 0 then -1 else 1 by rw [hd0]; rfl)
        have HDR := Lib.hid hdir
        have hds4 := HOK.out.1
        obtain ⟨bx, ox, hbx, -, -, hdc⟩ := ints_open (i := k) (show 4 = s.ds.length from hds4.symm) hst1.out.dr (by omega)
        obtain ⟨rfl, rfl⟩ : bd = bx ∧ 0 = ox := by simpa using hbx
        obtain ⟨n1, n2⟩ := hdc k (by omega)
        rw [Nat.zero_add] at n1 n2
        rw [show s.ds[k] = d0 from by rw [hd0, List.getD_eq_getElem?_getD]; simp [hds4, hkl]] at n1
        have e5 := hst1.out.c1.1
        obtain ⟨As, cs, rfl, -, -, -⟩ := hst1.out.rs.val
        have HD0 := Lib.hid hd0
        clear hmem hdir hd0 hdc hbx
        go_upto_block 4 with fail
        go_cut [9] (fun a wx => a = .int .i64 ((k : Int) + 1) ∧ Hid (Ints wx (fun b => b = bd) (.slice (some ⟨bd, 0, none⟩) 4 4) (s.ds.set k (dirOf s k))) ∧ Hid (Chg (fun b => b = bd) w1 wx))
        case first =>
          by_cases hz : d0 = 0
          rotate_left
          · have hq : (d0 != 0) = true := by simpa using hz
            have HE := Lib.hid (show dirOf s k = -d0 by rw [HDE.out, if_pos hz])
            have wn : IntKind.i64.wrap (-d0) = -d0 := IntWalk.i64_in _ (by omega)
            clear hz
            have HI := Lib.hid (show Ints (w1.setCell ⟨bd, k, none⟩ (.int .i64 (-d0))) (fun b => b = bd) (.slice (some ⟨bd, 0, none⟩) 4 4) (s.ds.set k (dirOf s k)) from by rw [HE.out]; have := Ints.setn (o := 0) (show 4 = s.ds.length from hds4.symm) hst1.out.dr (k := k) (by omega) (x := (-d0)) (by unfold I64; omega); rwa [Nat.zero_add] at this)
            have HG := Lib.hid (show Chg (fun b => b = bd) w1 (w1.setCell ⟨bd, k, none⟩ (.int .i64 (-d0))) from Chg.setCell (Chg.refl (fun b => b = bd) w1) (p := ⟨bd, k, none⟩) (.inl (show bd = bd from rfl)) _)
            go_wp2_with fail
            go_meet
            first | exact ⟨rfl, HI, HG⟩ | exact ⟨rfl, Lib.hid (HI.out.up (by repeat (first | exact Chg.refl _ _ | apply Chg.drew | apply Chg.drewN | refine Chg.alloc ?_ _))), Lib.hid (Chg.trans HG.out (Chg.of_up (by repeat (first | exact Chg.refl _ _ | apply Chg.drew | apply Chg.drewN | refine Chg.alloc ?_ _))))⟩
          subst hz
          have hq : ((0 : Int) != 0) = false := rfl
          by_cases hz2 : s.rs.length = 0
          · have hq2 : ((s.rs.length : Int) == 0) = true := by simp [hz2]
            have HE := Lib.hid (show dirOf s k = -1 by rw [HDE.out, if_neg (by omega), if_pos hz2])
            clear hz2
            have HI := Lib.hid (show Ints (w1.setCell ⟨bd, k, none⟩ (.int .i64 (-1))) (fun b => b = bd) (.slice (some ⟨bd, 0, none⟩) 4 4) (s.ds.set k (dirOf s k)) from by rw [HE.out]; have := Ints.setn (o := 0) (show 4 = s.ds.length from hds4.symm) hst1.out.dr (k := k) (by omega) (x := (-1)) (by unfold I64; omega); rwa [Nat.zero_add] at this)
            have HG := Lib.hid (show Chg (fun b => b = bd) w1 (w1.setCell ⟨bd, k, none⟩ (.int .i64 (-1))) from Chg.setCell (Chg.refl (fun b => b = bd) w1) (p := ⟨bd, k, none⟩) (.inl (show bd = bd from rfl)) _)
            go_wp2_with fail
            go_meet
            first | exact ⟨rfl, HI, HG⟩ | exact ⟨rfl, Lib.hid (HI.out.up (by repeat (first | exact Chg.refl _ _ | apply Chg.drew | apply Chg.drewN | refine Chg.alloc ?_ _))), Lib.hid (Chg.trans HG.out (Chg.of_up (by repeat (first | exact Chg.refl _ _ | apply Chg.drew | apply Chg.drewN | refine Chg.alloc ?_ _))))⟩
          · have hq2 : ((s.rs.length : Int) == 0) = false := by simpa using hz2
            have HE := Lib.hid (show dirOf s k = 1 by rw [HDE.out, if_neg (by omega), if_neg hz2])
            clear hz2
            have HI := Lib.hid (show Ints (w1.setCell ⟨bd, k, none⟩ (.int .i64 1)) (fun b => b = bd) (.slice (some ⟨bd, 0, none⟩) 4 4) (s.ds.set k (dirOf s k)) from by rw [HE.out]; have := Ints.setn (o := 0) (show 4 = s.ds.length from hds4.symm) hst1.out.dr (k := k) (by omega) (x := 1) (by unfold I64; omega); rwa [Nat.zero_add] at this)
            have HG := Lib.hid (show Chg (fun b => b = bd) w1 (w1.setCell ⟨bd, k, none⟩ (.int .i64 1)) from Chg.setCell (Chg.refl (fun b => b = bd) w1) (p := ⟨bd, k, none⟩) (.inl (show bd = bd from rfl)) _)
            go_wp2_with fail
            go_meet
            first | exact ⟨rfl, HI, HG⟩ | exact ⟨rfl, Lib.hid (HI.out.up (by repeat (first | exact Chg.refl _ _ | apply Chg.drew | apply Chg.drewN | refine Chg.alloc ?_ _))), Lib.hid (Chg.trans HG.out (Chg.of_up (by repeat (first | exact Chg.refl _ _ | apply Chg.drew | apply Chg.drewN | refine Chg.alloc ?_ _))))⟩
        case rest =>
          obtain ⟨rfl, hdi, hcf⟩ := hcut
          obtain ⟨wk, hwk⟩ : ∃ x, x = wc := ⟨_, rfl⟩
          subst hwk
          clear r1 f0 n1 n2 e5
          obtain ⟨d, hd⟩ : ∃ d, d = dirOf s k := ⟨_, rfl⟩
          have HD := Lib.hid hd
          have hdb : d = 1 ∨ d = -1 := by rw [hd]; exact HDR.out
          rw [← hd] at hdi
          have HDI := Lib.hid hdi.out
          have HY2 := Lib.hid (show colK most row s k = ⟨s.rs ++ [⟨d, (k : Int) + 1, stitM row ((k : Int) + 1) most⟩], s.ds.set k d⟩ by rw [hd]; exact HY.out)
          clear hd
          obtain ⟨bx, ox, hbx, -, -, hdc⟩ := ints_open (i := k) (show 4 = (s.ds.set k d).length by rw [List.length_set]; exact hds4.symm) hdi.out (by rw [List.length_set]; omega)
          obtain ⟨rfl, rfl⟩ : bd = bx ∧ 0 = ox := by simpa using hbx
          have n1 := (hdc k (by rw [List.length_set]; omega)).1
          rw [Nat.zero_add, List.getElem_set_self] at n1
          clear hdc hbx
          have UK := Lib.hid (UW.out _ (Chg.trans hst1.out.ch (hcf.out.mono (fun b _ e => .inr e))))
          have r1 := Chg.cell UK.out Q1.out id
          have f0 := Chg.cell UK.out F0.out id
          obtain ⟨e5, e6⟩ := CellF.keep hcf.out hst1.out.c1 (fun e => by have := HBB.out; have e : b6 = bd := e; omega)
          have N1 := Lib.hid n1
          have HDB := Lib.hid hdb
          clear hdb hdi
          go_upto_region 15 with fail
          have C1K := Lib.hid (show CellF wk ⟨b6, 1, none⟩ (.slice As s.rs.length cs) from ⟨e5, e6⟩)
          have HOW := Lib.hid (show OwnR wk wf.heap.size (.slice As s.rs.length cs) s.rs from hst1.out.rs.kept hcf.out (fun b hb _ e => by have := HBB.out; have e : b = bd := e; omega))
          have H64 := Lib.hid (show I64 d ∧ I64 ((k : Int) + 1) from by have := HDB.out; unfold I64; omega)
          have HLN := Lib.hid (show s.rs.length ≤ 1000000 by have := HOK.out.2.2; omega)
          have HZB := Lib.hid (show wf.heap.size ≤ wk.heap.size from Nat.le_trans hst1.out.ch.size hcf.out.size)
          have HB6 := Lib.hid (fun (h : (Value.slice As s.rs.length cs).ownBlock = some b6) => (show False by have := (HOW.out.lt h).1; have := HBB.out; omega))
          clear hds4
          have wki : IntKind.i64.wrap (k : Int) = (k : Int) := IntWalk.i64_in _ (by omega)
          have hk0 : (0 : Int) ≤ (k : Int) := by omega
          have hk4 : (k : Int) < 4 := by omega
          go_region_law (first | (go_simp; go_at_call 120; (with_reducible refine (l19Stitches_any _ L _ row ((k : Int) + 1) most ((show Ints w L _ row from HV.out).up (Chg.trans UK.out (by repeat (first | exact Chg.refl _ _ | apply Chg.drew | apply Chg.drewN | refine Chg.alloc ?_ _)))) hrl (by omega) HM.out).mono ?_); rintro e w6 ⟨v6, rfl, k6, g6⟩; obtain ⟨A6, c6, rfl, hl6, hc6, -⟩ := k6.shape; have K6 := Lib.hid (show Ints w6 (New wk.heap.size w6.heap.size) _ _ from k6.mono (fun b _ h => ⟨by have := h.1; simpa using this, h.2⟩)); have B6 := Lib.hid (And.intro hl6 hc6); have G6 := Lib.hid (show Up wk w6 from Chg.trans (by repeat (first | exact Chg.refl _ _ | apply Chg.drew | apply Chg.drewN | refine Chg.alloc ?_ _)) g6); have p1 := Chg.cell G6.out C1K.out.1 id; have p2 := Chg.cell G6.out N1.out id; have p3 := Chg.cell ((Chg.refl Nowhere w6).alloc (.cells #[.int .i64 d, .int .i64 ((k : Int) + 1), .slice A6 (stitM row ((k : Int) + 1) most).length c6] 180)) p1 id; have y1 := (Chg.frozen G6.out C1K.out.1 id).trans C1K.out.2; have y0 := (show wk.frozen? ⟨b6, 1, none⟩ = false from C1K.out.2); clear k6 g6 hl6 hc6) | (refine step_append_row rfl (.tmp 70) (.tmp 88) rfl wf.heap.size wk (.slice As s.rs.length cs) s.rs (by simp [Act.eval, Act.put]) HOW.out (S := Nowhere) (Chg.trans G6.out (show Up w6 _ from by repeat (first | exact Chg.refl _ _ | apply Chg.drew | refine Chg.alloc ?_ _))) (fun _ _ _ h => h) w6.heap.size ⟨d, (k : Int) + 1, (stitM row ((k : Int) + 1) most)⟩ A6 c6 (by simp [Act.eval, Act.put]) (by simp [cell_new]) (by simp [cell_new]) (by simp [cell_new]) ((K6.out.up (show Up w6 _ from by repeat (first | exact Chg.refl _ _ | apply Chg.drew | refine Chg.alloc ?_ _))).mono (fun b _ h => ⟨h.1, Nat.lt_of_lt_of_le h.2 (Chg.size (show Up w6 _ from by repeat (first | exact Chg.refl _ _ | apply Chg.drew | refine Chg.alloc ?_ _)))⟩)) B6.out H64.out HLN.out HZB.out ?_; intro v' w' h1 h2 h3; obtain ⟨E5, e5', rfl, -⟩ := h1.val; have GG := Lib.hid h1; have GC := Lib.hid h2; have GU := Lib.hid (up_ofR h2 (show Up w6 _ from by repeat (first | exact Chg.refl _ _ | apply Chg.drew | refine Chg.alloc ?_ _))); obtain ⟨q1, q2⟩ := CellF.keep h2 (CellF.up (Chg.trans G6.out GU.out) C1K.out) HB6.out; clear h1 h2 h3))
          all_goals (go_wp2_with fail)
          all_goals (go_roundw; (case rel => (have S8 := Lib.hid (RefSt.fin (s' := ⟨s.rs ++ [⟨d, (k : Int) + 1, (stitM row ((k : Int) + 1) most)⟩], s.ds.set k d⟩) hst1.out (by have := HBB.out; omega) hcf.out HDI.out (Chg.trans G6.out GU.out) GC.out GG.out); rw [show (s.rs ++ [(⟨d, (k : Int) + 1, (stitM row ((k : Int) + 1) most)⟩ : RowM)]).length = s.rs.length + 1 from by simp] at S8; rw [← HY2.out, ← HS.out] at S8; first | exact ⟨k + 1, _, by omega, by go_num, Lib.hid (S8.out.up (by repeat (first | exact Chg.refl _ _ | apply Chg.drew | apply Chg.drewN | refine Chg.alloc ?_ _)))⟩ | ((repeat apply Exists.intro); exact ⟨⟨k + 1, _, by omega, by go_num, Lib.hid (S8.out.up (by repeat (first | exact Chg.refl _ _ | apply Chg.drew | apply Chg.drewN | refine Chg.alloc ?_ _)))⟩, rfl⟩))); (case measure => (first | (simp [intOf]; done) | (simp [intOf]; omega))))
    · obtain rfl : t = c.rs.length := by omega
      obtain ⟨Af, cf, rfl, hz1, hz2, -⟩ := hst.out.rs.val
      have HRD := Lib.hid hst.out.rs.rd
      have e0 := hst.out.c0.1
      have e1 := hst.out.c1.1
      have NB : ¬ (w.heap.size = b6 ∨ w.heap.size = bd) := by have := HBB.out; omega
      have X0 := Lib.hid (CellF.keep hst.out.ch Z0.out NB)
      have X1 := Lib.hid (CellF.keep hst.out.ch Z1.out NB)
      have UE := Lib.hid (UW.out _ hst.out.ch)
      have HCA := Lib.hid (show ChartAt wr (New wf.heap.size wr.heap.size) b6 0 (chartC c most) from ⟨Af, cf, e0, e1, HRD.out.rv, hz1, hz2, HN.out, World.block_lt_of_cell? _ _ e0⟩)
      have HZ := Lib.hid (And.intro hz1 hz2)
      clear NB
      go_wp2_with fail
      refine (l15Ok_any _ _ _ _ _ (HCA.out.up (by repeat (first | exact Chg.refl _ _ | apply Chg.drew | apply Chg.drewN | refine Chg.alloc ?_ _)))).mono ?_
      rintro e w2 ⟨rfl, g2⟩
      have U2 := Lib.hid (show Up wr w2 from Chg.trans (by repeat (first | exact Chg.refl _ _ | apply Chg.drew | apply Chg.drewN | refine Chg.alloc ?_ _)) g2)
      obtain ⟨x0, f0⟩ := CellF.up U2.out X0.out
      obtain ⟨x1, f1⟩ := CellF.up U2.out X1.out
      have e0 := Chg.cell U2.out e0 id
      have e1 := Chg.cell U2.out e1 id
      clear g2
      by_cases hb : chartB (chartC c most) = true
      rotate_left
      · have hbb : chartB (chartC c most) = false := by simpa using hb
        have CZ := Lib.hid (show Chg (fun b => b = w.heap.size) w2 ((w2.setCell ⟨w.heap.size, 0, none⟩ (.int .i64 0)).setCell ⟨w.heap.size, 1, none⟩ (.slice none 0 0)) from Chg.setCell (Chg.setCell (Chg.refl (fun b => b = w.heap.size) w2) (p := ⟨w.heap.size, 0, none⟩) (.inl (show w.heap.size = w.heap.size from rfl)) _) (p := ⟨w.heap.size, 1, none⟩) (.inl (show w.heap.size = w.heap.size from rfl)) _)
        go_wp2_with fail
        refine bodyPost_ret (v := .tuple #[.agg #[.int .i64 0, .slice none 0 0], .int .i64 5]) (by simp [results, Try.results67, go_sem, x0, x1]) rfl ?_
        exact ⟨_, rfl, ⟨_, rfl, (OwnR.nil _ w.heap.size).rd, show I64 0 by unfold I64; omega⟩, Chg.new (Chg.trans UE.out U2.out) CZ.out (fun i hi e => by have e : i = w.heap.size := e; omega)⟩
      · skip
        have CZ := Lib.hid (show Chg (fun b => b = w.heap.size) w2 ((w2.setCell ⟨w.heap.size, 0, none⟩ (.int .i64 c.n)).setCell ⟨w.heap.size, 1, none⟩ (.slice Af (colTo most c.rs c.rs.length).rs.length cf)) from Chg.setCell (Chg.setCell (Chg.refl (fun b => b = w.heap.size) w2) (p := ⟨w.heap.size, 0, none⟩) (.inl (show w.heap.size = w.heap.size from rfl)) _) (p := ⟨w.heap.size, 1, none⟩) (.inl (show w.heap.size = w.heap.size from rfl)) _)
        go_wp2_with fail
        refine bodyPost_ret (v := .tuple #[.agg #[.int .i64 c.n, .slice Af (colTo most c.rs c.rs.length).rs.length cf], .int .i64 0]) (by simp [results, Try.results67, go_sem, x0, x1]) rfl ?_
        exact ⟨_, rfl, ⟨_, rfl, ((HRD.out.up U2.out).keep CZ.out (fun b _ hb e => by have := hb.1; have e : b = w.heap.size := e; have := HBB.out; omega)).mono (fun b _ hb => ⟨by have := hb.1; have := HBB.out; omega, Nat.lt_of_lt_of_le hb.2 (Nat.le_trans U2.out.size CZ.out.size)⟩), HN.out⟩, Chg.new (Chg.trans UE.out U2.out) CZ.out (fun i hi e => by have e : i = w.heap.size := e; omega)⟩
end Go.Proofs.Ytchfjglofmphfaa
