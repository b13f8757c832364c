/- The program's chart of a colour chart. No condition. -/
import Derived.Test.YtgdcffbakjfacaaDoorFC16
import Derived.Test.YtgdcffbakjfacaaDoorColV
import Derived.Test.YtgdcffbakjfacaaDoorFC17
import Derived.Deep.DeepCutAuto
import Derived.Deep.CutRange
set_option linter.unusedSimpArgs false
set_option linter.unusedVariables false
set_option maxRecDepth 100000
set_option maxHeartbeats 4000000
namespace Go.Proofs.YtgdcffbakjfacaaDoor
open Go.ChangeShapes Go.WideShapes Go.ChangeAt Go.RowKit
theorem Chg.newS {S T : Nat → Prop} {a b c : World} (h : Chg S a b) (k : Chg T b c) (hT : ∀ i, i < a.heap.size → ¬ T i) : Chg S a c :=
  ⟨k.os.trans h.os, k.tape.trans h.tape, k.output.trans h.output, Nat.le_trans h.size k.size, fun i hi hn => (k.block i (Nat.lt_of_lt_of_le hi h.size) (hT i hi)).trans (h.block i hi hn)⟩
/-- what the program's array of next directions holds -/
def nxD (ds : List Int) : Nat → Int
  | 0 => 0
  | t + 1 => -(ds.getD t 0)
def updF (f : Nat → Int) (k : Nat) (x : Int) : Nat → Int := fun t => if t = k then x else f t
def NxSt (w : World) (b : Nat) (f : Nat → Int) : Prop := ∀ t, t < 5 → CellF w ⟨b, t, none⟩ (.int .i64 (f t))
theorem NxSt.keep {S : Nat → Prop} {w w' : World} {b : Nat} {f : Nat → Int} (h : NxSt w b f) (g : Chg S w w') (hn : ¬ S b) : NxSt w' b f := fun t ht => CellF.keep g (h t ht) hn
theorem NxSt.up {w w' : World} {b : Nat} {f : Nat → Int} (h : NxSt w b f) (g : Up w w') : NxSt w' b f := h.keep g id
theorem NxSt.set {w : World} {b k : Nat} {f : Nat → Int} (h : NxSt w b f) (hk : k < 5) (x : Int) : NxSt (w.setCell ⟨b, k, none⟩ (.int .i64 x)) b (updF f k x) := fun t ht => by
  unfold updF
  by_cases e : t = k
  · subst e
    rw [if_pos rfl]
    exact CellF.set (h t ht)
  · rw [if_neg e]
    exact CellF.set_ne (h t ht) (fun h => e (by injection h))
theorem NxSt.congr {w : World} {b : Nat} {f f' : Nat → Int} (h : NxSt w b f) (he : ∀ t, t < 5 → f t = f' t) : NxSt w b f' := fun t ht => he t ht ▸ h t ht
theorem nx_set {ds : List Int} {k : Nat} {d : Int} (hl : ds.length = 4) (hk : k < 4) (f : Nat → Int) (hf : ∀ t, t < 5 → t ≠ k + 1 → f t = nxD ds t) (h1 : f (k + 1) = -d) : ∀ t, t < 5 → f t = nxD (ds.set k d) t := fun t ht => by
  by_cases e : t = k + 1
  · subst e
    rw [h1]
    unfold nxD
    simp [List.getD_eq_getElem?_getD, hl, hk]
  · rw [hf t ht e]
    cases t with
    | zero => rfl
    | succ t =>
      unfold nxD
      simp [List.getD_eq_getElem?_getD, List.getElem?_set_ne (show k ≠ t by omega)]
/-- tucks of one row's and carrier's floats, if floats are caught at all -/
def tuckP (most i k : Int) (out : List Int) (f : FloM) : List Int := if 0 < most then tuckIf most i k out f else out
theorem tuckP_all (most : Int) (rows : List (List Int)) {i : Nat} (hi : i < rows.length) (k : Int) (hk : 1 ≤ k ∧ k ≤ 4) : (allFl rows rows.length).foldl (tuckP most i k) (baseSt (colAt rows i) k) = stitM (colAt rows i) k most := by
  by_cases hm : 0 < most
  · rw [← tucks_all most rows hi k hk hm]
    congr 1
    funext a f
    exact if_pos hm
  · have e : ∀ (fs : List FloM) (out : List Int), fs.foldl (tuckP most i k) out = out := fun fs => by
      induction fs with
      | nil => intro out; rfl
      | cons f fs ih => intro out; rw [List.foldl_cons, ih]; exact if_neg hm
    rw [e]
    exact (if_neg hm).symm
theorem allFl_bd {rows : List (List Int)} (h : ∀ i (hi : i < rows.length), rows[i].length ≤ 1000) : ∀ m, m ≤ rows.length → ∀ f ∈ allFl rows m, 0 ≤ f.fr ∧ f.fr < f.til ∧ f.til < 1000 ∧ 0 ≤ f.row ∧ f.row < rows.length ∧ f.til < (colAt rows f.row.toNat).length
  | 0, _, f, hf => by simp [allFl] at hf
  | m + 1, hm, f, hf => by
    rcases List.mem_append.1 hf with hf | hf
    · exact allFl_bd h m (by omega) f hf
    · obtain ⟨⟨a1, -, a3, a4, a5⟩, -⟩ := rowFl_mem _ _ _ f hf
      have hl := colAt_len h m
      rw [a1]
      exact ⟨a3, a4, by omega, by omega, by omega, by simpa using a5⟩
/-- the chart under construction -/
structure ColSt (wf w : World) (b5 b6 : Nat) (n : Int) (s : ColS) (v : Value) : Prop where
  c0 : w.cell? ⟨b5, 0, none⟩ = some (.int .i64 n)
  c1 : CellF w ⟨b5, 1, none⟩ v
  nx : NxSt w b6 (nxD s.ds)
  rs : OwnR w wf.heap.size v s.rs
  ch : Chg (fun b => b = b5 ∨ b = b6) wf w
theorem ColSt.up {wf w w' : World} {b5 b6 : Nat} {n : Int} {s : ColS} {v : Value} (h : ColSt wf w b5 b6 n s v) (u : Up w w') : ColSt wf w' b5 b6 n s v :=
  ⟨u.cell h.c0 id, CellF.up u h.c1, h.nx.up u, h.rs.up u, Chg.trans h.ch (Chg.of_up u)⟩
theorem ColSt.fin {wf w1 wr w' : World} {b5 b6 : Nat} {n : Int} {s s' : ColS} {As : Option Addr} {cs : Nat} {v' : Value} (h : ColSt wf w1 b5 b6 n s (.slice As s.rs.length cs)) (hb : b5 ≠ b6 ∧ b5 < wf.heap.size ∧ b6 < wf.heap.size) (hu : Chg (fun b => b = b6) w1 wr) (hn : NxSt wr b6 (nxD s'.ds)) (hg : Chg (fun b => (Value.slice As s.rs.length cs).ownBlock = some b) wr w') (hr : OwnR w' wf.heap.size v' s'.rs) :
    ColSt wf (w'.setCell ⟨b5, 1, none⟩ v') b5 b6 n s' v' := by
  obtain ⟨h1, h2, h3⟩ := hb
  have ho : ∀ b, b < wf.heap.size → ¬ (Value.slice As s.rs.length cs).ownBlock = some b := fun b hb e => by have := (h.rs.lt e).1; omega
  have CG : Chg (fun b => b = b5) w' (w'.setCell ⟨b5, 1, none⟩ v') := Chg.setCell (Chg.refl (fun b => b = b5) w') (p := ⟨b5, 1, none⟩) (.inl (show b5 = b5 from rfl)) _
  have hs1 := h.ch.size
  have c1 := CellF.keep hg (CellF.keep hu h.c1 (fun e => h1 e)) (ho b5 h2)
  refine ⟨?_, CellF.set c1, (hn.keep hg (ho b6 h3)).keep CG (fun e => h1 e.symm), hr.kept CG (fun b hb _ e => by have e : b = b5 := e; omega), ?_⟩
  · have := hg.cell (hu.cell h.c0 (fun e => h1 e)) (ho b5 h2)
    exact (World.cell?_setCell_other _ _ _ _ (fun e => by injection e with _ e2; omega)).trans this
  · exact Chg.trans (Chg.newS (Chg.trans h.ch (hu.mono (fun b _ e => .inr e))) hg (fun i hi => ho i hi)) (CG.mono (fun b _ e => .inl e))
theorem colK_no {most : Int} {row : List Int} {s : ColS} {k : Nat} (h : ¬ ((k : Int) + 1) ∈ row) : colK most row s k = s := if_neg h
theorem colK_yes {most : Int} {row : List Int} {s : ColS} {k : Nat} (h : ((k : Int) + 1) ∈ row) : colK most row s k = ⟨s.rs ++ [⟨dirOf s k, (k : Int) + 1, stitM row ((k : Int) + 1) most⟩], s.ds.set k (dirOf s k)⟩ := if_pos h
theorem coloured_any (w : World) (M H L : Nat → Prop) (v : Value) (c : ColM) (h : ColV w M H L v c) (hl : c.rs.length ≤ 1000) (hr : ∀ i (hi : i < c.rs.length), c.rs[i].length ≤ 1000) (most : Int) (hm : 0 ≤ most ∧ most ≤ 8) :
    Calls Tryd.prog 18 #[v, .int .i64 most] w fun e w' => ∃ A k, e = .returned (.agg #[.int .i64 c.n, .slice A (chartC c most).rs.length k]) ∧ RowsX w' (New w.heap.size w'.heap.size) (.slice A (chartC c most).rs.length k) (chartC c most).rs ∧ (chartC c most).rs.length ≤ k ∧ k ≤ 9223372036854775807 ∧ Up w w' := by
  have HCV := Lib.hid h
  obtain ⟨A, kk, rfl, h0, ⟨hlk, hkm⟩, hi0⟩ := h
  have H0 := Lib.hid h0
  have HR := Lib.hid hr
  have HM := Lib.hid hm
  have HAL := Lib.hid (allFl_len (colAt_len hr) c.rs.length)
  have HBD := Lib.hid (fun f hf => allFl_bd hr c.rs.length (Nat.le_refl _) f hf)
  have q0 := (show (w.alloc (.cells #[.int .i64 c.n, .slice A c.rs.length kk] 26)).cell? ⟨w.heap.size, 0, none⟩ = some (.int .i64 c.n) from cell_new _ _ _ _)
  have q1 := (show (w.alloc (.cells #[.int .i64 c.n, .slice A c.rs.length kk] 26)).cell? ⟨w.heap.size, 1, none⟩ = some (.slice A c.rs.length kk) from cell_new _ _ _ _)
  have r0 := Chg.cell (Chg.alloc (Chg.refl Nowhere (w.alloc (.cells #[.int .i64 c.n, .slice A c.rs.length kk] 26))) (.cells #[.int .i64 0, .slice none 0 0] 36)) q0 id
  have r1 := Chg.cell (Chg.alloc (Chg.refl Nowhere (w.alloc (.cells #[.int .i64 c.n, .slice A c.rs.length kk] 26))) (.cells #[.int .i64 0, .slice none 0 0] 36)) q1 id
  have s0 := Chg.cell (Chg.alloc (Chg.alloc (Chg.alloc (Chg.refl Nowhere (w.alloc (.cells #[.int .i64 c.n, .slice A c.rs.length kk] 26))) (.cells #[.int .i64 0, .slice none 0 0] 36)) (.cells #[.int .i64 c.n, .slice none 0 0] 36)) (.cells #[.int .i64 0, .int .i64 0, .int .i64 0, .int .i64 0, .int .i64 0] 67)) q0 id
  have s1 := Chg.cell (Chg.alloc (Chg.alloc (Chg.alloc (Chg.refl Nowhere (w.alloc (.cells #[.int .i64 c.n, .slice A c.rs.length kk] 26))) (.cells #[.int .i64 0, .slice none 0 0] 36)) (.cells #[.int .i64 c.n, .slice none 0 0] 36)) (.cells #[.int .i64 0, .int .i64 0, .int .i64 0, .int .i64 0, .int .i64 0] 67)) q1 id
  clear h0 hr hm hi0 q0 q1
  go_enter Tryd.func18, Tryd.ntmps18
  go_wp2_with fail
  refine (floats_any _ M H L _ c (HCV.out.up (by repeat (first | exact Chg.refl _ _ | apply Chg.drew | apply Chg.drewN | refine Chg.alloc ?_ _))) hl HR.out).mono ?_
  rintro e wf ⟨vf, rfl, kf, gf⟩
  obtain ⟨Af, cf, rfl, hlf, hcf, -⟩ := kf.shape
  have HF := Lib.hid (show Flos wf (fun b => w.heap.size + 4 ≤ b) _ _ from kf.mono (fun b _ h => by have := h.1; simpa using this))
  have UF := Lib.hid (show Up w wf from Chg.trans (by repeat (first | exact Chg.refl _ _ | apply Chg.drew | apply Chg.drewN | refine Chg.alloc ?_ _)) gf)
  have hzf : w.heap.size + 4 ≤ wf.heap.size := by have := gf.size; simpa using this
  have s1 := Chg.cell gf s1 id
  have z0 := CellF.up gf (show CellF ((((w.alloc (.cells #[.int .i64 c.n, .slice A c.rs.length kk] 26)).alloc (.cells #[.int .i64 0, .slice none 0 0] 36)).alloc (.cells #[.int .i64 c.n, .slice none 0 0] 36)).alloc (.cells #[.int .i64 0, .int .i64 0, .int .i64 0, .int .i64 0, .int .i64 0] 67)) ⟨w.heap.size + 1, 0, none⟩ (.int .i64 0) from (by repeat (first | ((refine cellF_at ?_ rfl); (simp; done)) | refine CellF.up ((Chg.refl _ _).alloc _) ?_)))
  have z1 := CellF.up gf (show CellF ((((w.alloc (.cells #[.int .i64 c.n, .slice A c.rs.length kk] 26)).alloc (.cells #[.int .i64 0, .slice none 0 0] 36)).alloc (.cells #[.int .i64 c.n, .slice none 0 0] 36)).alloc (.cells #[.int .i64 0, .int .i64 0, .int .i64 0, .int .i64 0, .int .i64 0] 67)) ⟨w.heap.size + 1, 1, none⟩ (.slice none 0 0) from (by repeat (first | ((refine cellF_at ?_ rfl); (simp; done)) | refine CellF.up ((Chg.refl _ _).alloc _) ?_)))
  have y0 := CellF.up gf (show CellF ((((w.alloc (.cells #[.int .i64 c.n, .slice A c.rs.length kk] 26)).alloc (.cells #[.int .i64 0, .slice none 0 0] 36)).alloc (.cells #[.int .i64 c.n, .slice none 0 0] 36)).alloc (.cells #[.int .i64 0, .int .i64 0, .int .i64 0, .int .i64 0, .int .i64 0] 67)) ⟨w.heap.size + 1 + 1, 0, none⟩ (.int .i64 c.n) from (by repeat (first | ((refine cellF_at ?_ rfl); (simp; done)) | refine CellF.up ((Chg.refl _ _).alloc _) ?_)))
  have y1 := CellF.up gf (show CellF ((((w.alloc (.cells #[.int .i64 c.n, .slice A c.rs.length kk] 26)).alloc (.cells #[.int .i64 0, .slice none 0 0] 36)).alloc (.cells #[.int .i64 c.n, .slice none 0 0] 36)).alloc (.cells #[.int .i64 0, .int .i64 0, .int .i64 0, .int .i64 0, .int .i64 0] 67)) ⟨w.heap.size + 1 + 1, 1, none⟩ (.slice none 0 0) from (by repeat (first | ((refine cellF_at ?_ rfl); (simp; done)) | refine CellF.up ((Chg.refl _ _).alloc _) ?_)))
  have x9 : NxSt wf (w.heap.size + 1 + 1 + 1) (nxD [0, 0, 0, 0]) := fun t ht => CellF.up gf (by
    refine cellF_at (by simp) ?_
    match t, ht with
    | 0, _ => rfl
    | 1, _ => rfl
    | 2, _ => rfl
    | 3, _ => rfl
    | 4, _ => rfl)
  obtain ⟨b5, hb5⟩ : ∃ b, b = w.heap.size + 1 + 1 := ⟨_, rfl⟩
  rw [← hb5] at y0 y1 x9 ⊢
  obtain ⟨b6, hb6⟩ : ∃ b, b = b5 + 1 := ⟨_, rfl⟩
  rw [← hb6] at x9 ⊢
  have HBB := Lib.hid (show b5 = w.heap.size + 2 ∧ b6 = w.heap.size + 3 ∧ w.heap.size + 4 ≤ wf.heap.size from ⟨hb5, by omega, hzf⟩)
  have Z0 := Lib.hid z0
  have Z1 := Lib.hid z1
  have ST := Lib.hid (show ColSt wf wf b5 b6 c.n (colTo most c.rs 0) (.slice none 0 0) from ⟨y0.1, y1, x9, OwnR.nil _ _, Chg.refl _ _⟩)
  have UW := Lib.hid (fun (W : World) (h : Chg (fun b => b = b5 ∨ b = b6) wf W) => (show Up w W from Chg.new UF.out h (fun i hi e => by have := HBB.out; rcases e with e | e <;> omega)))
  have HFW := Lib.hid (fun (W : World) (h : Chg (fun b => b = b5 ∨ b = b6) wf W) => HF.out.keep h (fun b _ h1 h2 => by have := HBB.out; have h1 : w.heap.size + 4 ≤ b := h1; rcases h2 with h2 | h2 <;> omega))
  clear kf gf y0 y1 x9 z0 z1 r0 r1 s0 hb5 hb6 hzf
  go_wp2
  go_loopw [8, 9, 10, 11, 13, 15, 16, 26] (fun _ _ _ _ _ _ _ i wr => ∃ (t : Nat) (v : Value), t ≤ c.rs.length ∧ i = .int .i64 t ∧ Hid (ColSt wf wr b5 b6 c.n (colTo most c.rs t) v)) (fun _ _ _ _ _ _ _ i _ => c.rs.length - (intOf i).toNat)
  case atStart => exact ⟨0, _, by omega, rfl, ST⟩
  clear s1 ST
  case round =>
    obtain ⟨t, v, ht, rfl, hst⟩ := hrel
    have hok0 := Lib.hid (colTo_ok most c.rs t)
    by_cases htl : t < c.rs.length
    · obtain ⟨b, o, k1, vs, he, -, -, -, hE, hc⟩ := H0.out.at_ htl
      obtain ⟨rfl, rfl⟩ : A = some ⟨b, o, none⟩ ∧ kk = k1 := by simpa using he
      obtain ⟨A3, k3, rfl, hv, hk3, hk3m⟩ := hE
      have f0 := Chg.cell (UW.out _ hst.out.ch) (hc 0 _ rfl).1 id
      simp only [Nat.mul_one, Nat.add_zero] at f0
      clear hc he
      obtain ⟨row, hrow⟩ : ∃ row, row = c.rs[t] := ⟨_, rfl⟩
      have hrl : row.length ≤ 1000 := by rw [hrow]; exact HR.out t htl
      rw [← hrow] at hv hk3 f0
      have HRW := Lib.hid (hrow.trans (colAt_eq htl).symm)
      have HV := Lib.hid hv
      clear hrow hv
      go_wp2
      clear f0
      go_loopw [10, 11, 13, 15, 16] (fun a _ _ _ _ wx => ∃ (k : Nat) (v : Value), k ≤ 4 ∧ a = .int .i64 ((k : Int) + 1) ∧ Hid (ColSt wf wx b5 b6 c.n (colRow most row (colTo most c.rs t) k) v)) (fun a _ _ _ _ _ => 5 - (intOf a).toNat)
      case atStart => exact ⟨0, v, by omega, rfl, hst⟩
      clear hst
      case round =>
        obtain ⟨k, v, hk, rfl, hst⟩ := hrel
        by_cases hkl : k < 4
        rotate_left
        · obtain rfl : k = 4 := by omega
          go_wp2
          go_roundw
          case rel => exact ⟨t + 1, v, by omega, by go_num, by rw [colTo, ← HRW.out]; exact hst⟩
          case measure => first | (simp [intOf]; done) | (simp [intOf]; omega)
        have hdm : decide ((k : Int) + 1 ≤ 4) = true := decide_eq_true (by omega)
        have hok := colRow_ok (row := row) (most := most) hok0.out k (by omega)
        obtain ⟨s, hs⟩ : ∃ s, s = colRow most row (colTo most c.rs t) k := ⟨_, rfl⟩
        rw [← hs] at hst hok
        have HS := Lib.hid (show colRow most row (colTo most c.rs t) (k + 1) = colK most row s k by rw [hs]; rfl)
        have HOK := Lib.hid hok
        clear hs hok
        have U := Lib.hid (UW.out _ hst.out.ch)
        go_wp2_with fail
        refine (hasInt_any _ L _ row ((k : Int) + 1) (HV.out.up (Chg.trans U.out (by repeat (first | exact Chg.refl _ _ | apply Chg.drew | apply Chg.drewN | refine Chg.alloc ?_ _))))).mono ?_
        rintro e w1 ⟨rfl, g1⟩
        have hst1 := Lib.hid (hst.out.up (show Up wr w1 from Chg.trans (by repeat (first | exact Chg.refl _ _ | apply Chg.drew | apply Chg.drewN | refine Chg.alloc ?_ _)) g1))
        clear g1 hst U
        by_cases hmem : ((k : Int) + 1) ∈ row
        rotate_left
        · have hdd : decide (((k : Int) + 1) ∈ row) = false := decide_eq_false hmem
          have HN := Lib.hid (colK_no (most := most) (s := s) hmem)
          clear hmem
          go_wp2
          go_roundw
          case rel => exact ⟨k + 1, v, by omega, by go_num, by rw [HS.out, HN.out]; exact hst1⟩
          case measure => first | (simp [intOf]; done) | (simp [intOf]; omega)
        have hdd : decide (((k : Int) + 1) ∈ row) = true := decide_eq_true hmem
        have HY := Lib.hid (colK_yes (most := most) (s := s) hmem)
        obtain ⟨d0, hd0⟩ : ∃ d0, d0 = s.ds.getD k 0 := ⟨_, rfl⟩
        have hd0b : -1 ≤ d0 ∧ d0 ≤ 1 := by rw [hd0]; exact HOK.out.2.1 k hkl
        have hdir := dirOf_bd HOK.out hkl
        have HDE := Lib.hid (show dirOf s k = if d0 ≠ 0 then -d0 else if s.rs.length = 0 then -1 else 1 by rw [hd0]; rfl)
        have HDR := Lib.hid hdir
        obtain ⟨n1, n2⟩ := (show CellF w1 ⟨b6, k + 1, none⟩ (.int .i64 (-d0)) by rw [hd0]; exact hst1.out.nx (k + 1) (by omega))
        have e5 := hst1.out.c1.1
        obtain ⟨As, cs, rfl, -, -, -⟩ := hst1.out.rs.val
        have HD0 := Lib.hid hd0
        clear hmem hdir hd0
        go_upto_if 42 with fail
        go_cut [10] (fun a wx => a = .int .i64 ((k : Int) + 1) ∧ ∃ f : Nat → Int, Hid (NxSt wx b6 f) ∧ Hid (f (k + 1) = dirOf s k ∧ ∀ t, t < 5 → t ≠ k + 1 → f t = nxD s.ds t) ∧ Hid (Chg (fun b => b = b6) w1 wx))
        case first =>
          by_cases hz : d0 = 0
          rotate_left
          · have hq : (-d0 == 0) = false := by simp; omega
            have HE := Lib.hid (show dirOf s k = -d0 by rw [HDE.out, if_pos hz])
            clear hz
            go_wp2_with fail
            go_meet
            exact ⟨rfl, nxD s.ds, Lib.hid (hst1.out.nx.up (by repeat (first | exact Chg.refl _ _ | apply Chg.drew | apply Chg.drewN | refine Chg.alloc ?_ _))), Lib.hid ⟨by rw [HE.out, HD0.out]; rfl, fun _ _ _ => rfl⟩, Lib.hid (Chg.of_up (by repeat (first | exact Chg.refl _ _ | apply Chg.drew | apply Chg.drewN | refine Chg.alloc ?_ _)))⟩
          subst hz
          have hq : (-(0 : Int) == 0) = true := rfl
          have e6 := (World.cell?_setCell_other w1 ⟨b6, k + 1, none⟩ ⟨b5, 1, none⟩ (.int .i64 1) (fun e => by injection e with e1; have := HBB.out; omega)).trans e5
          by_cases hz2 : s.rs.length = 0
          · have hq2 : ((s.rs.length : Int) == 0) = true := by simp [hz2]
            have HE := Lib.hid (show dirOf s k = -1 by rw [HDE.out, if_neg (by omega), if_pos hz2])
            clear hz2
            go_wp2_with fail
            go_meet
            skip
            exact ⟨rfl, updF (updF (nxD s.ds) (k + 1) 1) (k + 1) (-1), Lib.hid (((hst1.out.nx.set (by omega) 1).set (by omega) (-1)).up (by repeat (first | exact Chg.refl _ _ | apply Chg.drew | apply Chg.drewN | refine Chg.alloc ?_ _))), Lib.hid ⟨by rw [HE.out]; simp [updF], fun t _ h => by simp [updF, h]⟩, Lib.hid (Chg.trans (Chg.setCell (Chg.setCell (Chg.refl (fun b => b = b6) w1) (p := ⟨b6, k + 1, none⟩) (.inl (show b6 = b6 from rfl)) _) (p := ⟨b6, k + 1, none⟩) (.inl (show b6 = b6 from rfl)) _) (Chg.of_up (by repeat (first | exact Chg.refl _ _ | apply Chg.drew | apply Chg.drewN | refine Chg.alloc ?_ _))))⟩
          · have hq2 : ((s.rs.length : Int) == 0) = false := by simpa using hz2
            have HE := Lib.hid (show dirOf s k = 1 by rw [HDE.out, if_neg (by omega), if_neg hz2])
            clear hz2
            go_wp2_with fail
            go_meet
            exact ⟨rfl, updF (nxD s.ds) (k + 1) 1, Lib.hid ((hst1.out.nx.set (by omega) 1).up (by repeat (first | exact Chg.refl _ _ | apply Chg.drew | apply Chg.drewN | refine Chg.alloc ?_ _))), Lib.hid ⟨by rw [HE.out]; simp [updF], fun t _ h => by simp [updF, h]⟩, Lib.hid (Chg.trans (Chg.setCell (Chg.refl (fun b => b = b6) w1) (p := ⟨b6, k + 1, none⟩) (.inl (show b6 = b6 from rfl)) _) (Chg.of_up (by repeat (first | exact Chg.refl _ _ | apply Chg.drew | apply Chg.drewN | refine Chg.alloc ?_ _))))⟩
        case rest =>
          obtain ⟨rfl, f, hf, hfe, hcf⟩ := hcut
          obtain ⟨hfe1, hfe2⟩ := hfe.out
          obtain ⟨d, hd⟩ : ∃ d, d = dirOf s k := ⟨_, rfl⟩
          have HD := Lib.hid hd
          obtain ⟨n1, n2⟩ := (show CellF wc ⟨b6, k + 1, none⟩ (.int .i64 d) by rw [hd, ← hfe1]; exact hf.out (k + 1) (by omega))
          have hdb : d = 1 ∨ d = -1 := by rw [hd]; exact HDR.out
          have hfk : f (k + 1) = d := by rw [hfe1, hd]
          have HFE2 := Lib.hid hfe2
          have HFK := Lib.hid hfk
          clear hfe hfe1 hfe2 hd hdb hfk
          have HDB := Lib.hid (show d = 1 ∨ d = -1 by rw [HD.out]; exact HDR.out)
          have hd1 : -1 ≤ d ∧ d ≤ 1 := by rcases HDB.out with h | h <;> omega
          have wn : IntKind.i64.wrap (-d) = -d := IntWalk.i64_in _ (by omega)
          have UWC := Lib.hid (UW.out _ (Chg.trans hst1.out.ch (hcf.out.mono (fun b _ e => .inr e))))
          have m1 := Chg.cell ((Chg.refl Nowhere wc).alloc (.cells #[.int .i64 d, .int .i64 ((k : Int) + 1), .slice none 0 0] 40)) n1 id
          have m2 := (Chg.frozen ((Chg.refl Nowhere wc).alloc (.cells #[.int .i64 d, .int .i64 ((k : Int) + 1), .slice none 0 0] 40)) n1 id).trans n2
          go_wp2
          obtain ⟨br, hbr⟩ : ∃ b, b = wc.heap.size := ⟨_, rfl⟩
          have C15 := Lib.hid (show Chg (fun b => b = b6) wc ((wc.alloc (.cells #[.int .i64 d, .int .i64 ((k : Int) + 1), .slice none 0 0] 40)).setCell ⟨b6, k + 1, none⟩ (.int .i64 (-d))) from Chg.setCell (Chg.alloc (Chg.refl (fun b => b = b6) wc) _) (p := ⟨b6, k + 1, none⟩) (.inl (show b6 = b6 from rfl)) _)
          have N15 := Lib.hid (show NxSt ((wc.alloc (.cells #[.int .i64 d, .int .i64 ((k : Int) + 1), .slice none 0 0] 40)).setCell ⟨b6, k + 1, none⟩ (.int .i64 (-d))) b6 (nxD (s.ds.set k d)) from ((hf.out.up ((Chg.refl _ _).alloc (.cells #[.int .i64 d, .int .i64 ((k : Int) + 1), .slice none 0 0] 40))).set (k := k + 1) (by omega) (-d)).congr (nx_set HOK.out.1 hkl _ (fun t ht hn => by unfold updF; rw [if_neg hn]; exact HFE2.out t ht hn) (by unfold updF; rw [if_pos rfl])))
          have hs15 : ((wc.alloc (.cells #[.int .i64 d, .int .i64 ((k : Int) + 1), .slice none 0 0] 40)).setCell ⟨b6, k + 1, none⟩ (.int .i64 (-d))).heap.size = wc.heap.size + 1 := (by simp [World.setCell])
          have hb6 : b6 < wc.heap.size := World.block_lt_of_cell? _ _ n1
          have B0 := (show CellF ((wc.alloc (.cells #[.int .i64 d, .int .i64 ((k : Int) + 1), .slice none 0 0] 40)).setCell ⟨b6, k + 1, none⟩ (.int .i64 (-d))) ⟨wc.heap.size, 0, none⟩ (.int .i64 d) from CellF.set_ne (cellF_at rfl rfl) (fun e => by injection e with e1; omega))
          have B1 := (show CellF ((wc.alloc (.cells #[.int .i64 d, .int .i64 ((k : Int) + 1), .slice none 0 0] 40)).setCell ⟨b6, k + 1, none⟩ (.int .i64 (-d))) ⟨wc.heap.size, 1, none⟩ (.int .i64 ((k : Int) + 1)) from CellF.set_ne (cellF_at rfl rfl) (fun e => by injection e with e1; omega))
          have B2 := (show CellF ((wc.alloc (.cells #[.int .i64 d, .int .i64 ((k : Int) + 1), .slice none 0 0] 40)).setCell ⟨b6, k + 1, none⟩ (.int .i64 (-d))) ⟨wc.heap.size, 2, none⟩ (.slice none 0 0) from CellF.set_ne (cellF_at rfl rfl) (fun e => by injection e with e1; omega))
          rw [← hbr] at B0 B1 B2 hs15 ⊢
          generalize ((wc.alloc (.cells #[.int .i64 d, .int .i64 ((k : Int) + 1), .slice none 0 0] 40)).setCell ⟨b6, k + 1, none⟩ (.int .i64 (-d))) = w15 at C15 N15 B0 B1 B2 hs15 ⊢
          have HB0 := Lib.hid B0
          have HB1 := Lib.hid B1
          have C1 := Lib.hid (Chg.trans hcf.out C15.out)
          have U15 := Lib.hid (UW.out _ (Chg.trans hst1.out.ch (C1.out.mono (fun b _ e => .inr e))))
          have hbr1 : w1.heap.size ≤ br := by rw [hbr]; exact hcf.out.size
          have hs1 := hst1.out.ch.size
          have HBR := Lib.hid (show w1.heap.size ≤ br ∧ br < w15.heap.size ∧ wf.heap.size ≤ w1.heap.size ∧ w15.heap.size = br + 1 from ⟨hbr1, by omega, hs1, hs15⟩)
          have HR15 := Lib.hid (hst1.out.rs.kept C1.out (fun b hb _ e => by have := HBB.out; have e : b = b6 := e; omega))
          clear B0 B1 n1 n2 m1 m2 wn hf hcf hbr UWC C15
          go_loopw [13, 64] (fun _ i wx => ∃ (j : Nat) (q : Value), j ≤ row.length ∧ i = .int .i64 j ∧ Hid (CellF wx ⟨br, 2, none⟩ q) ∧ Hid (OwnI wx (br + 1) q (baseSt (row.take j) ((k : Int) + 1))) ∧ Hid (Chg (fun b => b = br) w15 wx) ∧ Hid (CellF wx ⟨br, 0, none⟩ (.int .i64 d) ∧ CellF wx ⟨br, 1, none⟩ (.int .i64 ((k : Int) + 1)))) (fun _ i _ => row.length - (intOf i).toNat)
          case atStart => exact ⟨0, _, by omega, rfl, Lib.hid B2, OwnI.nil _ _, Lib.hid (Chg.refl _ _), Lib.hid ⟨HB0.out, HB1.out⟩⟩
          clear B2
          case round =>
            obtain ⟨j, q, hj, rfl, hq2, ho, hg, hb01⟩ := hrel
            have UX := Lib.hid (Chg.new U15.out hg.out (fun i hi e => by have e : i = br := e; have := HBR.out; have := HBB.out; have := U15.out.size; have h9 := hst1.out.ch.size; have h8 := (UW.out _ hst1.out.ch).size; omega))
            have hbl : (baseSt (row.take j) ((k : Int) + 1)).length ≤ 1000 := by rw [baseSt_length, List.length_take]; omega
            have HLB := Lib.hid (show (baseSt (row.take j) ((k : Int) + 1)).length ≤ 1099511627776 by omega)
            clear hbl
            by_cases hlt : j < row.length
            · obtain ⟨b2, o2, rfl, -, hc2⟩ := ints_ixf (HV.out.up UX.out) hlt
              have p0 := (hc2 j hlt).1
              rw [ix_eq hlt] at p0
              clear hc2
              have HBS := Lib.hid (baseSt_take (k := (k : Int) + 1) hlt)
              obtain ⟨p2, y2⟩ := hq2.out
              have hszx := hg.out.size
              have HOW := Lib.hid (fun (b : Nat) (e : q.ownBlock = some b) => (show br + 1 ≤ b from (ho.out.lt e).1))
              have hbr2 := HBR.out
              by_cases hx : row[j] = (k : Int) + 1
              · have hxq : (row[j] == (k : Int) + 1) = true := by rw [hx]; simp
                have HV2 := Lib.hid (show (if row[j] = (k : Int) + 1 then (1 : Int) else 7) = 1 from if_pos hx)
                clear hx
                have p3 := Chg.cell ((Chg.refl Nowhere wr).alloc (.cells #[.int .i64 1] 2)) p2 id
                go_wp2_with (at_builtin; refine wp_append_int2 rfl _ _ rfl (br + 1) q (baseSt (row.take j) ((k : Int) + 1)) rfl (ho.out.alloc _) _ (1) rfl (cell_new _ _ _ _) (by unfold I64; omega) HLB.out (by simp; omega) ?_; intro v1 w2 h1 h2 h3 h4; obtain ⟨E5, l5, e5', rfl⟩ : ∃ E l c, v1 = Value.slice E l c := (by obtain ⟨A5, c5, h5, -⟩ := h1.ints.shape; exact ⟨_, _, _, h5⟩); have HO := Lib.hid h1; have HG := Lib.hid (show Chg (fun b => q.ownBlock = some b) wr w2 from Chg.trans (Chg.of_up ((Chg.refl Nowhere wr).alloc _)) h2); obtain ⟨x2, x3⟩ := CellF.keep HG.out hq2.out (fun e => absurd (HOW.out br e) (by omega)); clear h1 h2 h3 h4)
                have CB := Lib.hid (show Chg (fun b => b = br) w2 (w2.setCell ⟨br, 2, none⟩ (.slice E5 l5 e5')) from Chg.setCell (Chg.refl (fun b => b = br) w2) (p := ⟨br, 2, none⟩) (.inl (show br = br from rfl)) _)
                have HQ := Lib.hid (show CellF (w2.setCell ⟨br, 2, none⟩ (.slice E5 l5 e5')) ⟨br, 2, none⟩ (.slice E5 l5 e5') from CellF.set ⟨x2, x3⟩)
                have HO2 := Lib.hid (HO.out.kept CB.out (fun g hg e => by have h1 := (HO.out.lt hg).1; have e : g = br := e; omega))
                have HB3 := Lib.hid (show CellF (w2.setCell ⟨br, 2, none⟩ (.slice E5 l5 e5')) ⟨br, 0, none⟩ (.int .i64 d) ∧ CellF (w2.setCell ⟨br, 2, none⟩ (.slice E5 l5 e5')) ⟨br, 1, none⟩ (.int .i64 ((k : Int) + 1)) from ⟨CellF.set_ne (CellF.keep HG.out hb01.out.1 (fun e => absurd (HOW.out br e) (by omega))) (fun e => by injection e with _ e2; omega), CellF.set_ne (CellF.keep HG.out hb01.out.2 (fun e => absurd (HOW.out br e) (by omega))) (fun e => by injection e with _ e2; omega)⟩)
                have HC := Lib.hid (show Chg (fun b => b = br) w15 (w2.setCell ⟨br, 2, none⟩ (.slice E5 l5 e5')) from Chg.trans (Chg.newS hg.out HG.out (fun i hi e => by have h1 := (ho.out.lt e).1; have h2 := HBR.out; omega)) CB.out)
                go_roundw
                case rel => exact ⟨j + 1, _, by omega, by go_num, HQ, by rw [HBS.out, HV2.out]; exact HO2, HC, HB3⟩
                case measure => first | (simp [intOf]; done) | (simp [intOf]; omega)
              · have hxq : (row[j] == (k : Int) + 1) = false := by simpa using hx
                have HV2 := Lib.hid (show (if row[j] = (k : Int) + 1 then (1 : Int) else 7) = 7 from if_neg hx)
                clear hx
                have p3 := Chg.cell ((Chg.refl Nowhere wr).alloc (.cells #[.int .i64 7] 2)) p2 id
                go_wp2_with (at_builtin; refine wp_append_int2 rfl _ _ rfl (br + 1) q (baseSt (row.take j) ((k : Int) + 1)) rfl (ho.out.alloc _) _ (7) rfl (cell_new _ _ _ _) (by unfold I64; omega) HLB.out (by simp; omega) ?_; intro v1 w2 h1 h2 h3 h4; obtain ⟨E5, l5, e5', rfl⟩ : ∃ E l c, v1 = Value.slice E l c := (by obtain ⟨A5, c5, h5, -⟩ := h1.ints.shape; exact ⟨_, _, _, h5⟩); have HO := Lib.hid h1; have HG := Lib.hid (show Chg (fun b => q.ownBlock = some b) wr w2 from Chg.trans (Chg.of_up ((Chg.refl Nowhere wr).alloc _)) h2); obtain ⟨x2, x3⟩ := CellF.keep HG.out hq2.out (fun e => absurd (HOW.out br e) (by omega)); clear h1 h2 h3 h4)
                have CB := Lib.hid (show Chg (fun b => b = br) w2 (w2.setCell ⟨br, 2, none⟩ (.slice E5 l5 e5')) from Chg.setCell (Chg.refl (fun b => b = br) w2) (p := ⟨br, 2, none⟩) (.inl (show br = br from rfl)) _)
                have HQ := Lib.hid (show CellF (w2.setCell ⟨br, 2, none⟩ (.slice E5 l5 e5')) ⟨br, 2, none⟩ (.slice E5 l5 e5') from CellF.set ⟨x2, x3⟩)
                have HO2 := Lib.hid (HO.out.kept CB.out (fun g hg e => by have h1 := (HO.out.lt hg).1; have e : g = br := e; omega))
                have HB3 := Lib.hid (show CellF (w2.setCell ⟨br, 2, none⟩ (.slice E5 l5 e5')) ⟨br, 0, none⟩ (.int .i64 d) ∧ CellF (w2.setCell ⟨br, 2, none⟩ (.slice E5 l5 e5')) ⟨br, 1, none⟩ (.int .i64 ((k : Int) + 1)) from ⟨CellF.set_ne (CellF.keep HG.out hb01.out.1 (fun e => absurd (HOW.out br e) (by omega))) (fun e => by injection e with _ e2; omega), CellF.set_ne (CellF.keep HG.out hb01.out.2 (fun e => absurd (HOW.out br e) (by omega))) (fun e => by injection e with _ e2; omega)⟩)
                have HC := Lib.hid (show Chg (fun b => b = br) w15 (w2.setCell ⟨br, 2, none⟩ (.slice E5 l5 e5')) from Chg.trans (Chg.newS hg.out HG.out (fun i hi e => by have h1 := (ho.out.lt e).1; have h2 := HBR.out; omega)) CB.out)
                go_roundw
                case rel => exact ⟨j + 1, _, by omega, by go_num, HQ, by rw [HBS.out, HV2.out]; exact HO2, HC, HB3⟩
                case measure => first | (simp [intOf]; done) | (simp [intOf]; omega)
            · obtain rfl : j = row.length := by omega
              obtain ⟨w17, hw17⟩ : ∃ x, x = wr := ⟨_, rfl⟩
              subst hw17
              have h9 := ho.out.ints
              rw [List.take_length] at h9
              obtain ⟨A9, c9, rfl, hl9, hc9, -⟩ := h9.shape
              have hbs9 := baseSt_length row ((k : Int) + 1)
              rw [hbs9] at h9 hl9 hq2
              clear ho
              have hs17 := hg.out.size
              have hbr2 := HBR.out
              have H9 := Lib.hid (show Ints w17 (fun b => br < b ∧ b < w17.heap.size) (.slice A9 row.length c9) (baseSt row ((k : Int) + 1)) from h9.mono (fun b _ h => ⟨by have := h.1; omega, h.2⟩))
              have HL9 := Lib.hid (show row.length ≤ c9 ∧ c9 ≤ 9223372036854775807 from ⟨hl9, hc9⟩)
              have CW17 := Lib.hid (show Chg (fun b => b = b5 ∨ b = b6) wf w17 from Chg.newS (Chg.trans hst1.out.ch (C1.out.mono (fun b _ e => .inr e))) hg.out (fun i hi e => by have e : i = br := e; have := HBR.out; omega))
              have HAF := Lib.hid (show (allFl c.rs c.rs.length).foldl (tuckP most t ((k : Int) + 1)) (baseSt row ((k : Int) + 1)) = stitM row ((k : Int) + 1) most by rw [HRW.out]; exact tuckP_all most c.rs htl _ (by omega))
              have HQ2 := Lib.hid hq2.out
              have HB01 := Lib.hid hb01.out
              have HG17 := Lib.hid hg.out
              have HT17 := Lib.hid hs17
              clear h9 hl9 hc9 hbs9 hq2 hb01 UX hg HLB
              obtain ⟨fs, hfs⟩ : ∃ fs, fs = allFl c.rs c.rs.length := ⟨_, rfl⟩
              have HFS := Lib.hid hfs
              have HFL := Lib.hid (fun (W : World) (h : Chg (fun b => b = b5 ∨ b = b6) wf W) => (show Flos W (fun b => w.heap.size + 4 ≤ b) (.slice Af fs.length cf) fs by rw [hfs]; exact HFW.out W h))
              have hfl1 : fs.length ≤ 4000000 := by rw [hfs]; have := HAL.out; omega
              rw [← hfs] at HAF hlf ⊢
              clear hfs
              go_wp2
              go_loopw [15, 16, 84] (fun _ _ i wx => ∃ (t2 : Nat) (cur : List Int), t2 ≤ fs.length ∧ i = .int .i64 t2 ∧ cur.length = row.length ∧ Hid ((fs.drop t2).foldl (tuckP most t ((k : Int) + 1)) cur = stitM row ((k : Int) + 1) most) ∧ Hid (Ints wx (fun b => br < b ∧ b < w17.heap.size) (.slice A9 row.length c9) cur) ∧ Hid (Chg (fun b => br < b ∧ b < w17.heap.size) w17 wx)) (fun _ _ i _ => fs.length - (intOf i).toNat)
              case atStart => exact ⟨0, _, by omega, rfl, baseSt_length _ _, HAF, H9, Lib.hid (Chg.refl _ _)⟩
              clear H9 HAF
              case round =>
                obtain ⟨t2, cur, ht2, rfl, hcl, hf, hi, hg⟩ := hrel
                have CWX := Lib.hid (Chg.newS CW17.out hg.out (fun i hi h => by have h1 := h.1; have := HBR.out; omega))
                have hbr3 := HBR.out
                have hsx := hg.out.size
                by_cases htl2 : t2 < fs.length
                · obtain ⟨bf, of, cf', hef, -, -, hcf⟩ := (HFL.out _ CWX.out).at_ htl2
                  obtain ⟨rfl, rfl⟩ : Af = some ⟨bf, of, none⟩ ∧ cf = cf' := by simpa using hef
                  have g0 := (hcf 0 _ rfl).1
                  have g1 := (hcf 1 _ rfl).1
                  have g2 := (hcf 2 _ rfl).1
                  have g3 := (hcf 3 _ rfl).1
                  rw [Nat.add_zero] at g0
                  obtain ⟨f2, hfe⟩ : ∃ f2, f2 = fs[t2] := ⟨_, rfl⟩
                  have hfb := HBD.out f2 (by rw [hfe, ← HFS.out]; exact List.getElem_mem htl2)
                  rw [← hfe] at g0 g1 g2 g3
                  obtain ⟨f1, f3, f4, f5, f6, f7⟩ := hfb
                  have HDRP := Lib.hid (show fs.drop t2 = f2 :: fs.drop (t2 + 1) by rw [hfe]; exact List.drop_eq_getElem_cons htl2)
                  clear hcf hef hfe
                  by_cases hmp : 0 < most
                  rotate_left
                  · have HE := Lib.hid (show tuckP most t ((k : Int) + 1) cur f2 = cur from by unfold tuckP; rw [if_neg hmp])
                    have d1 : decide (most > 0) = false := decide_eq_false (by omega)
                    clear f7
                    go_wp2
                    go_roundw
                    case rel => exact ⟨t2 + 1, cur, by omega, by go_num, hcl, Lib.hid (by rw [← hf.out, HDRP.out, List.foldl_cons, HE.out]), Lib.hid (hi.out.up (by repeat (first | exact Chg.refl _ _ | apply Chg.drew | apply Chg.drewN | refine Chg.alloc ?_ _))), Lib.hid (Chg.trans hg.out (Chg.of_up (by repeat (first | exact Chg.refl _ _ | apply Chg.drew | apply Chg.drewN | refine Chg.alloc ?_ _))))⟩
                    case measure => first | (simp [intOf]; done) | (simp [intOf]; omega)
                  have d1 : decide (most > 0) = true := decide_eq_true (by omega)
                  by_cases hfr : f2.row = (t : Int)
                  rotate_left
                  · have HE := Lib.hid (show tuckP most t ((k : Int) + 1) cur f2 = cur from by unfold tuckP tuckIf; rw [if_pos hmp, if_neg (fun h => hfr h.1)])
                    have d2 : (f2.row == (t : Int)) = false := by simpa using hfr
                    clear f7
                    go_wp2
                    go_roundw
                    case rel => exact ⟨t2 + 1, cur, by omega, by go_num, hcl, Lib.hid (by rw [← hf.out, HDRP.out, List.foldl_cons, HE.out]), Lib.hid (hi.out.up (by repeat (first | exact Chg.refl _ _ | apply Chg.drew | apply Chg.drewN | refine Chg.alloc ?_ _))), Lib.hid (Chg.trans hg.out (Chg.of_up (by repeat (first | exact Chg.refl _ _ | apply Chg.drew | apply Chg.drewN | refine Chg.alloc ?_ _))))⟩
                    case measure => first | (simp [intOf]; done) | (simp [intOf]; omega)
                  have d2 : (f2.row == (t : Int)) = true := by simpa using hfr
                  by_cases hfc : f2.car = (k : Int) + 1
                  rotate_left
                  · have HE := Lib.hid (show tuckP most t ((k : Int) + 1) cur f2 = cur from by unfold tuckP tuckIf; rw [if_pos hmp, if_neg (fun h => hfc h.2)])
                    have d3 : (f2.car == (k : Int) + 1) = false := by simpa using hfc
                    clear f7
                    go_wp2
                    go_roundw
                    case rel => exact ⟨t2 + 1, cur, by omega, by go_num, hcl, Lib.hid (by rw [← hf.out, HDRP.out, List.foldl_cons, HE.out]), Lib.hid (hi.out.up (by repeat (first | exact Chg.refl _ _ | apply Chg.drew | apply Chg.drewN | refine Chg.alloc ?_ _))), Lib.hid (Chg.trans hg.out (Chg.of_up (by repeat (first | exact Chg.refl _ _ | apply Chg.drew | apply Chg.drewN | refine Chg.alloc ?_ _))))⟩
                    case measure => first | (simp [intOf]; done) | (simp [intOf]; omega)
                  have d3 : (f2.car == (k : Int) + 1) = true := by simpa using hfc
                  have HE := Lib.hid (show tuckP most t ((k : Int) + 1) cur f2 = tuckF most cur f2 from by unfold tuckP tuckIf; rw [if_pos hmp, if_pos ⟨hfr, hfc⟩])
                  have f8 : f2.til < row.length := by rw [hfr, Int.toNat_natCast, ← HRW.out] at f7; exact f7
                  obtain ⟨x0, hx0⟩ : ∃ x0 : Nat, (x0 : Int) = f2.fr + most + 1 := ⟨(f2.fr + most + 1).toNat, by omega⟩
                  have hm8 := HM.out
                  have HX0 := Lib.hid hx0
                  have HX0B := Lib.hid (show (x0 : Int) ≤ f2.til + 9 by omega)
                  have HTB := Lib.hid (show f2.til < row.length ∧ f2.til ≤ 1000 ∧ most ≤ 8 ∧ 0 < most from ⟨f8, by omega, hm8.2, hmp⟩)
                  have wm : IntKind.i64.wrap (f2.fr + most) = f2.fr + most := IntWalk.i64_in _ (by omega)
                  have wm2 : IntKind.i64.wrap (f2.fr + most + 1) = (x0 : Int) := by rw [hx0]; exact IntWalk.i64_in _ (by omega)
                  have HCX := Lib.hid (fun W (h : Chg (fun b => br < b ∧ b < w17.heap.size) (wr.alloc (.cells #[.int .i64 f2.row, .int .i64 f2.car, .int .i64 f2.fr, .int .i64 f2.til] 72)) W) => (show W.cell? ⟨wr.heap.size, 3, none⟩ = some (.int .i64 f2.til) from Chg.cell h (cell_new _ _ _ 3) (fun h => by have h2 : wr.heap.size < w17.heap.size := h.2; omega)))
                  have HC2 := Lib.hid (fun W (h : Chg (fun b => br < b ∧ b < w17.heap.size) w17 W) => (CellF.keep h HQ2.out (fun h => Nat.lt_irrefl _ h.1)).1)
                  clear f7 f8 hx0 hfr hfc f1 f3 f4 f5 f6
                  obtain ⟨wk, hwk⟩ : ∃ x, x = wr := ⟨_, rfl⟩
                  subst hwk
                  go_wp2
                  clear g0 g1 g2 g3 wm wm2 d1 d2 d3
                  go_loopw [16] (fun a wx => ∃ (n x : Nat) (c2 : List Int), a = .int .i64 x ∧ c2.length = row.length ∧ Hid (f2.til - x ≤ (n : Int)) ∧ Hid ((x : Int) ≤ f2.til + 9) ∧ Hid (tuckW c2 x (most + 1) f2.til n = tuckF most cur f2) ∧ Hid (Ints wx (fun b => br < b ∧ b < w17.heap.size) (.slice A9 row.length c9) c2) ∧ Hid (Chg (fun b => br < b ∧ b < w17.heap.size) (wk.alloc (.cells #[.int .i64 f2.row, .int .i64 f2.car, .int .i64 f2.fr, .int .i64 f2.til] 72)) wx)) (fun a _ => (f2.til - intOf a).toNat)
                  case atStart => exact ⟨f2.til.toNat, x0, cur, rfl, hcl, Lib.hid (by have := HX0.out; omega), HX0B, Lib.hid (by unfold tuckF; rw [HX0.out]), Lib.hid (hi.out.up (by repeat (first | exact Chg.refl _ _ | apply Chg.drew | apply Chg.drewN | refine Chg.alloc ?_ _))), Lib.hid (Chg.refl _ _)⟩
                  case round =>
                    obtain ⟨n, x, c2, rfl, hcl2, hn, hxb, htw, hi2, hg2⟩ := hrel
                    have hn2 := hn.out
                    have hxb2 := hxb.out
                    have htb := HTB.out
                    have g3 := HCX.out _ hg2.out
                    have HGX := Lib.hid (Chg.trans hg.out (Chg.trans (Chg.of_up ((Chg.refl Nowhere wk).alloc (.cells #[.int .i64 f2.row, .int .i64 f2.car, .int .i64 f2.fr, .int .i64 f2.til] 72))) hg2.out))
                    have gq := HC2.out _ HGX.out
                    by_cases hxt : (x : Int) < f2.til
                    · have hdx : decide ((x : Int) < f2.til) = true := decide_eq_true hxt
                      obtain ⟨b7, o7, rfl, hS7, -, hc7⟩ := ints_open hcl2.symm hi2.out (i := x) (by omega)
                      obtain ⟨p1, p2⟩ := hc7 x (by omega)
                      obtain ⟨m, hm1⟩ : ∃ m, n = m + 1 := ⟨n - 1, by omega⟩
                      have wm : IntKind.i64.wrap (most + 1) = most + 1 := IntWalk.i64_in _ (by omega)
                      obtain ⟨y, hy⟩ : ∃ y : Nat, (y : Int) = (x : Int) + (most + 1) := ⟨(x + (most + 1)).toNat, by omega⟩
                      have wm2 : IntKind.i64.wrap ((x : Int) + (most + 1)) = (y : Int) := by rw [hy]; exact IntWalk.i64_in _ (by omega)
                      have HTW := Lib.hid (show tuckW (c2.set x 6) y (most + 1) f2.til m = tuckF most cur f2 by rw [← htw.out, hm1, tuckW_step _ hxt, hy]; simp)
                      have HY := Lib.hid (show f2.til - (y : Int) ≤ (m : Int) ∧ (y : Int) ≤ f2.til + 9 ∧ (x : Int) < y by omega)
                      have HI := Lib.hid (Ints.setn hcl2.symm hi2.out (k := x) (by omega) (x := 6) (by unfold I64; omega))
                      have HG := Lib.hid (Chg.setCell hg2.out (p := ⟨b7, o7 + x, none⟩) (.inl hS7) (.int .i64 6))
                      have HCL2 := Lib.hid (show (c2.set x 6).length = row.length by rw [List.length_set, hcl2])
                      clear hc7 hm1 hn2 hy
                      go_wp2
                      go_roundw
                      case rel => exact ⟨m, y, c2.set x 6, by first | rfl | (simp only [Value.int.injEq, true_and]; omega), HCL2.out, Lib.hid HY.out.1, Lib.hid HY.out.2.1, HTW, HI, HG⟩
                      case measure => have h1 := HY.out.2.2; simp only [intOf]; omega
                    · have hdx : decide ((x : Int) < f2.til) = false := decide_eq_false hxt
                      have HEQ := Lib.hid (show c2 = tuckF most cur f2 by rw [← htw.out, tuckW_end _ hxt])
                      go_wp2
                      go_roundw
                      case rel => exact ⟨t2 + 1, c2, by omega, by go_num, hcl2, Lib.hid (by rw [HEQ.out, ← hf.out, HDRP.out, List.foldl_cons, HE.out]), hi2, HGX⟩
                      case measure => first | (simp [intOf]; done) | (simp [intOf]; omega)
                · obtain rfl : t2 = fs.length := by omega
                  have HEQ := Lib.hid (show cur = stitM row ((k : Int) + 1) most by have := hf.out; rwa [List.drop_length, List.foldl_nil] at this)
                  have CU := Lib.hid (show Chg (fun b => b = b6) w1 wr from Chg.newS (Chg.newS C1.out HG17.out (fun i hi e => by have e : i = br := e; have := HBR.out; omega)) hg.out (fun i hi h => by have h1 := h.1; have := HBR.out; omega))
                  have hb56 : b5 ≠ b6 ∧ b5 < wf.heap.size ∧ b6 < wf.heap.size := by have := HBB.out; omega
                  have e5 := Chg.cell CU.out hst1.out.c1.1 (fun e => hb56.1 e)
                  have NK : ¬ (br < br ∧ br < w17.heap.size) := fun h => Nat.lt_irrefl _ h.1
                  obtain ⟨p0, -⟩ := CellF.keep hg.out HB01.out.1 NK
                  obtain ⟨p1, -⟩ := CellF.keep hg.out HB01.out.2 NK
                  obtain ⟨p2, -⟩ := CellF.keep hg.out HQ2.out NK
                  have HDD := Lib.hid (show d = dirOf s k from HD.out)
                  have hrsl := HOK.out.2.2
                  have HHB := Lib.hid hb56
                  have HOW5 := Lib.hid (fun (e : (Value.slice As s.rs.length cs).ownBlock = some b5) => (show False from by have := (hst1.out.rs.lt e).1; omega))
                  have HC5 := Lib.hid (CellF.keep CU.out hst1.out.c1 (fun e => hb56.1 e))
                  have hdb := HDB.out
                  have hsl := stitM_length row ((k : Int) + 1) most
                  have HSL := Lib.hid hsl
                  have HRLEN := Lib.hid (show s.rs.length ≤ 1000000 by omega)
                  have HWS := Lib.hid (show wf.heap.size ≤ w1.heap.size from hst1.out.ch.size)
                  clear hsl hrsl
                  go_wp2_with (at_builtin; refine wp_append_row rfl _ _ rfl wf.heap.size w1 _ s.rs rfl hst1.out.rs (Chg.alloc CU.out (.cells #[.int .i64 d, .int .i64 ((k : Int) + 1), .slice A9 row.length c9] 40)) (fun b hb _ e => by have := HHB.out; have e : b = b6 := e; omega) _ ⟨d, (k : Int) + 1, stitM row ((k : Int) + 1) most⟩ A9 c9 rfl (cell_new _ _ _ 0) (cell_new _ _ _ 1) (by rw [HSL.out]; exact cell_new _ _ _ 2) ?_ (by rw [HSL.out]; exact HL9.out) ⟨by show I64 d; unfold I64; omega, by show I64 ((k : Int) + 1); unfold I64; omega⟩ HRLEN.out HWS.out ?_; (focus (rw [HSL.out, ← HEQ.out]; exact (hi.out.up ((Chg.refl Nowhere wr).alloc (.cells #[.int .i64 d, .int .i64 ((k : Int) + 1), .slice A9 row.length c9] 40))).mono (fun b hb h => ⟨by have := HBR.out; have := h.1; omega, by simp; have := h.2; have := hg.out.size; omega⟩))); intro v' w' h1 h2 h3; obtain ⟨E5, z5, rfl, -⟩ := h1.val; have HR5 := Lib.hid h1; have HG5 := Lib.hid (show Chg (fun b => Value.ownBlock (.slice As s.rs.length cs) = some b) wr w' from Chg.trans (Chg.of_up ((Chg.refl Nowhere wr).alloc (.cells #[.int .i64 d, .int .i64 ((k : Int) + 1), .slice A9 row.length c9] 40))) h2); obtain ⟨q1, q2⟩ := CellF.keep HG5.out HC5.out (fun e => HOW5.out e); clear h1 h2 h3)
                  have hfs2 := HFS.out
                  subst hfs2
                  have NX9 := Lib.hid ((N15.out.keep HG17.out (fun e => by have e : b6 = br := e; have := HHB.out; have := HBR.out; omega)).keep hg.out (fun h => by have h1 : br < b6 := h.1; have := HHB.out; have := HBR.out; omega))
                  have hlen5 : (s.rs ++ [(⟨d, (k : Int) + 1, stitM row ((k : Int) + 1) most⟩ : RowM)]).length = s.rs.length + 1 := by simp
                  rw [hlen5] at HR5
                  clear hlen5
                  have STN := Lib.hid (ColSt.fin (s' := colK most row s k) hst1.out HHB.out CU.out (by rw [HY.out, ← HDD.out]; exact NX9.out) HG5.out (by rw [HY.out, ← HDD.out]; exact HR5.out))
                  go_roundw
                  case rel => exact ⟨k + 1, _, by omega, by go_num, by rw [HS.out]; exact STN⟩
                  case measure => first | (simp [intOf]; done) | (simp [intOf]; omega)
    · obtain rfl : t = c.rs.length := by omega
      obtain ⟨E5, z5, rfl, hz1, hz2, -⟩ := hst.out.rs.val
      have HRD := Lib.hid hst.out.rs.rd
      have e0 := hst.out.c0
      have e1 := hst.out.c1.1
      have NB : ¬ (w.heap.size + 1 = b5 ∨ w.heap.size + 1 = b6) := by have := HBB.out; omega
      obtain ⟨y0, f0⟩ := CellF.keep hst.out.ch Z0.out NB
      obtain ⟨y1, f1⟩ := CellF.keep hst.out.ch Z1.out NB
      have UE := Lib.hid (UW.out _ hst.out.ch)
      have hzw := UF.out.size
      have CZ := Lib.hid (show Chg (fun b => b = w.heap.size + 1) wr ((wr.setCell ⟨w.heap.size + 1, 0, none⟩ (.int .i64 c.n)).setCell ⟨w.heap.size + 1, 1, none⟩ (.slice E5 (colTo most c.rs c.rs.length).rs.length z5)) from Chg.setCell (Chg.setCell (Chg.refl (fun b => b = w.heap.size + 1) wr) (p := ⟨w.heap.size + 1, 0, none⟩) (.inl (show w.heap.size + 1 = w.heap.size + 1 from rfl)) _) (p := ⟨w.heap.size + 1, 1, none⟩) (.inl (show w.heap.size + 1 = w.heap.size + 1 from rfl)) _)
      have HZZ := Lib.hid (show (colTo most c.rs c.rs.length).rs.length ≤ z5 ∧ z5 ≤ 9223372036854775807 from ⟨hz1, hz2⟩)
      clear hst hz1 hz2 hok0 NB
      go_wp2
      refine bodyPost_ret (v := .agg #[.int .i64 c.n, .slice E5 (colTo most c.rs c.rs.length).rs.length z5]) (by simp [results, Tryd.results18, go_sem, y0, y1]) rfl ?_
      exact ⟨E5, z5, rfl, (HRD.out.keep CZ.out (fun b _ hb e => by have := hb.1; have e : b = w.heap.size + 1 := e; have := HBB.out; omega)).mono (fun b _ hb => ⟨by have := hb.1; have := HBB.out; omega, Nat.lt_of_lt_of_le hb.2 CZ.out.size⟩), HZZ.out.1, HZZ.out.2, Chg.new UE.out CZ.out (fun i hi e => by have e : i = w.heap.size + 1 := e; omega)⟩
end Go.Proofs.YtgdcffbakjfacaaDoor
