/- The reference's draw of a row out of bytes: it ends, with some row in memory of its own. No condition but room. -/
import Derived.Test.YtnjfhpgmogopnaaDrw2
set_option linter.unusedSimpArgs false
set_option linter.unusedVariables false
set_option maxRecDepth 100000
set_option maxHeartbeats 1000000
namespace Go.Proofs.Ytnjfhpgmogopnaa
open Go.ChangeShapes Go.WideShapes Go.ChangeAt Go.RowKit
def Byts (w : World) (A : Option Addr) (cp : Nat) (bs : List Nat) : Prop := bs.length ≤ 1048576 ∧ (0 < bs.length → ∃ gb go, A = some ⟨gb, go, none⟩ ∧ ∀ i (hi : i < bs.length), w.cell? ⟨gb, go + i, none⟩ = some (.int .u8 (bs[i] : Int)) ∧ bs[i] < 256)
theorem Byts.up {w w' : World} {A : Option Addr} {cp : Nat} {bs : List Nat} (h : Byts w A cp bs) (g : Up w w') : Byts w' A cp bs :=
  ⟨h.1, fun hp => by
    obtain ⟨gb, go, hA, hc⟩ := h.2 hp
    exact ⟨gb, go, hA, fun i hi => ⟨g.cell (hc i hi).1 id, (hc i hi).2⟩⟩⟩
theorem l00From_any (w : World) (A : Option Addr) (cp : Nat) (bs : List Nat) (h : Byts w A cp bs) :
    Calls Try.prog 122 #[.slice A bs.length cp] w fun e w' => e = .returned (.pointer (some ⟨w.heap.size, 0, none⟩)) ∧ SrcAt w' w.heap.size A cp bs 0 0 ∧ Up w w' := by
  have HB := Lib.hid h
  clear h
  go_enter Try.func122, Try.ntmps122
  go_wp2
  go_ret
  refine ⟨rfl, ⟨by simp, cell_new _ _ _ _, cell_new _ _ _ _, cell_new _ _ _ _, frozen_new _ _ _ _, frozen_new _ _ _ _, by omega, HB.out.1, fun hp => ?_⟩, (by repeat (first | exact Chg.refl _ _ | apply Chg.drew | apply Chg.drewN | refine Chg.alloc ?_ _))⟩
  obtain ⟨gb, go, hA, hc⟩ := HB.out.2 hp
  refine ⟨gb, go, hA, ?_, fun i hi => ⟨Chg.cell (show Up w _ from (by repeat (first | exact Chg.refl _ _ | apply Chg.drew | apply Chg.drewN | refine Chg.alloc ?_ _))) (hc i hi).1 id, (hc i hi).2⟩⟩
  have := World.block_lt_of_cell? _ _ (hc 0 hp).1
  simp only [] at this
  omega
theorem drawRow_any (w : World) (A : Option Addr) (cp : Nat) (bs : List Nat) (h : Byts w A cp bs) :
    Calls Try.prog 49 #[.slice A bs.length cp] w fun e w' => ∃ (v : Value) (r : RowM), e = .returned v ∧ RowV w' (New w.heap.size w'.heap.size) v r ∧ Up w w' := by
  have HB := Lib.hid h
  clear h
  go_enter Try.func49, Try.ntmps49
  go_wp2_with fail
  refine (l00From_any _ A cp bs (HB.out.up (by repeat (first | exact Chg.refl _ _ | apply Chg.drew | apply Chg.drewN | refine Chg.alloc ?_ _)))).mono ?_
  rintro e w1 ⟨rfl, s1, g1⟩
  have HG1 := Lib.hid g1
  have hz1 := g1.size
  simp only [World.size_alloc] at s1 hz1
  have HS1 := Lib.hid s1
  clear s1 g1
  go_wp2_with fail
  refine (l20Row_any _ _ A cp bs 0 0 HS1.out (by omega)).mono ?_
  rintro e w2 ⟨v, r, rfl, k, g2⟩
  obtain ⟨Ar, cr, rfl, hi, -, -, hrr, -⟩ := k.shape
  have HI := Lib.hid hi
  have HR := Lib.hid hrr
  have HC := Lib.hid (show Chg (fun k => k = w.heap.size + 1) (w.alloc (.cells #[.int .i64 0, .int .i64 0, .slice none 0 0] 87)) w2 from Chg.trans (HG1.out.mono fun _ _ h => h.elim) g2)
  have nr : ∀ c0 : Nat, c0 = w.heap.size → ¬ c0 = w.heap.size + 1 := fun c0 h h9 => by omega
  obtain ⟨R0c, R0f⟩ := (show CellF w2 ⟨w.heap.size, 0, none⟩ (.int .i64 0) from CellF.keep HC.out (cellF_at rfl rfl) (nr _ rfl))
  obtain ⟨R1c, R1f⟩ := (show CellF w2 ⟨w.heap.size, 1, none⟩ (.int .i64 0) from CellF.keep HC.out (cellF_at rfl rfl) (nr _ rfl))
  obtain ⟨R2c, R2f⟩ := (show CellF w2 ⟨w.heap.size, 2, none⟩ (.slice none 0 0) from CellF.keep HC.out (cellF_at rfl rfl) (nr _ rfl))
  clear k g2 hi hrr nr
  go_wp2
  have HZ := Lib.hid (show Chg (fun b => b = w.heap.size) w2 _ from Chg.setCell (Chg.setCell (Chg.setCell (Chg.refl (fun b => b = w.heap.size) w2) (p := ⟨w.heap.size, 0, none⟩) (.inl rfl) (.int .i64 r.d)) (p := ⟨w.heap.size, 1, none⟩) (.inl rfl) (.int .i64 r.c)) (p := ⟨w.heap.size, 2, none⟩) (.inl rfl) (.slice Ar r.xs.length cr))
  refine bodyPost_ret (v := .agg #[.int .i64 r.d, .int .i64 r.c, .slice Ar r.xs.length cr]) (by simp [results, Try.results49, go_sem, R0c, R1c, R2c]) rfl ?_
  refine ⟨_, r, rfl, ⟨_, rfl, (HI.out.keep HZ.out (fun b _ hb hd => by have hd : b = w.heap.size := hd; have := hb.1; omega)).mono (fun b hl hb => ⟨by have := hb.1; omega, hl⟩), HR.out⟩, ?_⟩
  have hu : Up w w2 := Chg.new (show Up w (w.alloc (.cells #[.int .i64 0, .int .i64 0, .slice none 0 0] 87)) from (by repeat (first | exact Chg.refl _ _ | apply Chg.drew | apply Chg.drewN | refine Chg.alloc ?_ _))) HC.out (fun i hi hd => by omega)
  exact Chg.new hu HZ.out (fun i hi hd => by omega)
theorem b10Long_any (w : World) (A : Option Addr) (n cp : Nat) :
    Calls Try.prog 48 #[.slice A n cp] w fun e w' => e = .returned (.bool (decide (1048576 < (n : Int)))) ∧ w = w' := by
  go_enter Try.func48, Try.ntmps48
  go_wp2
  go_ret
  exact ⟨rfl, rfl⟩
end Go.Proofs.Ytnjfhpgmogopnaa
