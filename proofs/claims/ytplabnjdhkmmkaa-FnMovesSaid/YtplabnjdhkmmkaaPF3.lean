/- The reference's source of choices: bytes, then a simple sequence. No condition but room. The reference's source of draws over bytes; a draw out of a small number, 1 and up. No condition but room. -/
import Derived.Test.YtplabnjdhkmmkaaPF1
import Derived.Test.YtplabnjdhkmmkaaPF2
import Derived.BigQuiet
import Derived.WalkSmall
section
set_option maxRecDepth 100000
set_option maxHeartbeats 1000000
set_option linter.unusedSimpArgs false
set_option linter.unusedVariables false
namespace Go.Proofs.Ytplabnjdhkmmkaa
open Go.ChangeShapes Go.WideShapes Go.ChangeAt Go.RowKit
structure SrcAt (w : World) (b : Nat) (A : Option Addr) (cp : Nat) (bs : List Nat) (at_ seed : Nat) : Prop where
  lt : b < w.heap.size
  c0 : w.cell? ⟨b, 0, none⟩ = some (.slice A bs.length cp)
  c1 : w.cell? ⟨b, 1, none⟩ = some (.int .i64 (at_ : Int))
  c2 : w.cell? ⟨b, 2, none⟩ = some (.int .u64 (seed : Int))
  z1 : w.frozen? ⟨b, 1, none⟩ = false
  z2 : w.frozen? ⟨b, 2, none⟩ = false
  sd : seed < 18446744073709551616
  len : bs.length ≤ 1048576
  rd : 0 < bs.length → ∃ gb go, A = some ⟨gb, go, none⟩ ∧ gb ≠ b ∧ ∀ i (hi : i < bs.length), w.cell? ⟨gb, go + i, none⟩ = some (.int .u8 (bs[i] : Int)) ∧ bs[i] < 256
theorem SrcAt.keep {S : Nat → Prop} {w w' : World} {b : Nat} {A : Option Addr} {cp : Nat} {bs : List Nat} {at_ seed : Nat} (h : SrcAt w b A cp bs at_ seed) (g : Chg S w w') (hb : ¬ S b) (hs : 0 < bs.length → ∀ x, x < w.heap.size → S x → ∀ o, A ≠ some ⟨x, o, none⟩) : SrcAt w' b A cp bs at_ seed :=
  ⟨Nat.lt_of_lt_of_le h.lt g.size, g.cell h.c0 hb, g.cell h.c1 hb, g.cell h.c2 hb, (g.frozen h.c1 hb).trans h.z1, (g.frozen h.c2 hb).trans h.z2, h.sd, h.len, fun hp => by
    obtain ⟨gb, go, rfl, hne, hc⟩ := h.rd hp
    refine ⟨gb, go, rfl, hne, fun i hi => ⟨g.cell (hc i hi).1 (fun hx => hs hp gb (World.block_lt_of_cell? _ _ (hc i hi).1) hx go rfl), (hc i hi).2⟩⟩⟩
theorem SrcAt.up {w w' : World} {b : Nat} {A : Option Addr} {cp : Nat} {bs : List Nat} {at_ seed : Nat} (h : SrcAt w b A cp bs at_ seed) (g : Up w w') : SrcAt w' b A cp bs at_ seed := h.keep g id (fun _ _ _ h => h.elim)
theorem wrap_u64 (z : Int) : IntKind.u64.wrap z = z % 18446744073709551616 := by simp [IntKind.wrap, IntKind.signed, IntKind.bits]
theorem SrcAt.stepped {w : World} {b : Nat} {A : Option Addr} {cp : Nat} {bs : List Nat} {t seed : Nat} (h : SrcAt w b A cp bs t seed) (n : Nat) {sn : Nat} (hs : sn < 18446744073709551616) {z y : Int} (hz : z = (sn : Int)) (hy : y = ((t + 1 : Nat) : Int)) :
    SrcAt (((w.drewN n).setCell ⟨b, 1, none⟩ (.int .i64 y)).setCell ⟨b, 2, none⟩ (.int .u64 z)) b A cp bs (t + 1) sn := by
  subst hz hy
  have hc1 : (w.drewN n).cell? ⟨b, 1, none⟩ = some (.int .i64 (t : Int)) := h.c1
  have hc2 : (w.drewN n).cell? ⟨b, 2, none⟩ = some (.int .u64 (seed : Int)) := h.c2
  have n1 : (⟨b, 2, none⟩ : Addr) ≠ ⟨b, 1, none⟩ := fun h => by injection h with _ h _; omega
  refine ⟨by simpa [World.setCell] using h.lt, ?_, ?_, ?_, by simpa using h.z1, by simpa using h.z2, hs, h.len, fun hp => ?_⟩
  · rw [World.cell?_setCell_other _ _ _ _ (fun h => by injection h with _ h _; omega), World.cell?_setCell_other _ _ _ _ (fun h => by injection h with _ h _; omega)]
    exact h.c0
  · rw [World.cell?_setCell_other _ _ _ _ n1]
    exact World.cell?_setCell_same _ _ _ hc1
  · exact World.cell?_setCell_same _ _ _ ((World.cell?_setCell_other _ _ _ _ n1.symm).trans hc2)
  · obtain ⟨gb, go, hA, hne, hc⟩ := h.rd hp
    refine ⟨gb, go, hA, hne, fun i hi => ⟨?_, (hc i hi).2⟩⟩
    rw [World.cell?_setCell_other _ _ _ _ (fun h => by injection h with h _ _; exact hne h.symm), World.cell?_setCell_other _ _ _ _ (fun h => by injection h with h _ _; exact hne h.symm)]
    exact (hc i hi).1
theorem next_any (w : World) (b : Nat) (A : Option Addr) (cp : Nat) (bs : List Nat) (t seed : Nat) (h : SrcAt w b A cp bs t seed) (ht : t < 4611686018427387904) :
    Calls Try.prog 88 #[.pointer (some ⟨b, 0, none⟩)] w fun e w' => ∃ x seed' : Nat, e = .returned (.int .i64 (x : Int)) ∧ x < 256 ∧ SrcAt w' b A cp bs (t + 1) seed' ∧ Chg (fun k => k = b) w w' ∧ (bs.length ≤ t → seed' = lcgF seed ∧ x % 2 = bitL seed') := by
  have HS := Lib.hid h
  obtain ⟨hlt, c0, c1, c2, z1, z2, sd, hlen, hrd⟩ := h
  have HRD := Lib.hid hrd
  clear hrd
  by_cases hat : t < bs.length
  · obtain ⟨gb, go, rfl, hne, hc⟩ := HRD.out (by omega)
    have fb := (hc t hat).1
    have hb256 := (hc t hat).2
    obtain ⟨x, hx⟩ : ∃ x, x = bs[t] := ⟨_, rfl⟩
    rw [← hx] at fb hb256
    have t1 : decide ((t : Int) < (bs.length : Int)) = true := decide_eq_true (by omega)
    have t2 : decide ((t : Int) + 1 ≤ (bs.length : Int)) = true := decide_eq_true (by omega)
    clear hc hx
    go_enter Try.func88, Try.ntmps88
    go_wp2
    go_quiet (fail)
    go_wp2
    go_quiet (fail)
    go_wp2
    go_quiet (fail)
    go_wp2
    go_ret
    have hs : (((seed * 6364136223846793005) % 18446744073709551616 + x) % 18446744073709551616 + 1442695040888963407) % 18446744073709551616 < 18446744073709551616 := Nat.mod_lt _ (by omega)
    refine ⟨x, _, rfl, hb256, (HS.out.stepped _ hs ?_ ?_).up ((Chg.refl _ _).drewN _), Chg.drewN (Chg.setCell (Chg.setCell (Chg.drewN (Chg.refl (fun k => k = b) w) _) (p := ⟨b, 1, none⟩) (.inl rfl) _) (p := ⟨b, 2, none⟩) (.inl rfl) _) _, fun h => by omega⟩
    · rw [wrap_u64, wrap_u64, wrap_u64]; omega
    · omega
  · have t1 : decide ((t : Int) < (bs.length : Int)) = false := decide_eq_false (by omega)
    have t2 : decide ((t : Int) + 1 ≤ (bs.length : Int)) = false := decide_eq_false (by omega)
    go_enter Try.func88, Try.ntmps88
    go_wp2
    go_quiet (fail)
    go_wp2
    go_quiet (fail)
    go_wp2
    go_ret
    have hs : lcgF seed < 18446744073709551616 := by rw [lcgF_eq]; exact Nat.mod_lt _ (by omega)
    have e1 : IntKind.u64.wrap (IntKind.u64.wrap (IntKind.u64.wrap ((seed : Int) * 6364136223846793005)) + 1442695040888963407) = ((lcgF seed : Nat) : Int) := by
      rw [wrap_u64, wrap_u64, wrap_u64, lcgF_eq]; omega
    have e2 : wrap64 (bits BinOp.and IntKind.u64 (((lcgF seed : Nat) : Int) / 1099511627776) 255) = ((lcgF seed / 1099511627776 % 256 : Nat) : Int) := by
      have h3 := bits_and_u64_nat (lcgF seed / 1099511627776) 255 (by omega) (by omega)
      have h4 : lcgF seed / 1099511627776 &&& 255 = lcgF seed / 1099511627776 % 256 := Nat.and_two_pow_sub_one_eq_mod _ 8
      rw [h4] at h3
      have h5 : bits BinOp.and IntKind.u64 (((lcgF seed : Nat) : Int) / 1099511627776) 255 = ((lcgF seed / 1099511627776 % 256 : Nat) : Int) := h3
      rw [h5]
      unfold wrap64
      omega
    refine ⟨lcgF seed / 1099511627776 % 256, lcgF seed, ret_int (by rw [e1]; exact e2), by omega, (HS.out.stepped _ hs e1 ?_).up ((Chg.refl _ _).drewN _), Chg.drewN (Chg.setCell (Chg.setCell (Chg.drewN (Chg.refl (fun k => k = b) w) _) (p := ⟨b, 1, none⟩) (.inl rfl) _) (p := ⟨b, 2, none⟩) (.inl rfl) _) _, fun _ => ⟨rfl, ?_⟩⟩
    · omega
    · unfold bitL; omega
theorem pick_any (w : World) (b : Nat) (A : Option Addr) (cp : Nat) (bs : List Nat) (t seed n : Nat) (h : SrcAt w b A cp bs t seed) (ht : t < 4611686018427387904) (hn : 2 ≤ n) (hn2 : n ≤ 200) :
    Calls Try.prog 54 #[.pointer (some ⟨b, 0, none⟩), .int .i64 (n : Int)] w fun e w' => ∃ x seed' : Nat, e = .returned (.int .i64 ((x % n : Nat) : Int)) ∧ x < 256 ∧ SrcAt w' b A cp bs (t + 1) seed' ∧ Chg (fun k => k = b) w w' ∧ (bs.length ≤ t → seed' = lcgF seed ∧ x % 2 = bitL seed') := by
  have HS := Lib.hid h
  have t1 : decide ((n : Int) ≤ 1) = false := decide_eq_false (by omega)
  have t2 : decide ((200 : Int) < (n : Int)) = false := decide_eq_false (by omega)
  have t3 : ((n : Int) == 0) = false := by simp; omega
  clear h
  go_enter Try.func54, Try.ntmps54
  go_wp2_with fail
  refine (next_any _ b A cp bs t seed HS.out ht).mono ?_
  rintro e w1 ⟨x, sd', rfl, hx, s1, g1, hl⟩
  have S1 := Lib.hid s1
  have G1 := Lib.hid g1
  have HL := Lib.hid hl
  clear s1 g1 hl
  go_wp2
  go_ret
  exact ⟨x, sd', rfl, hx, S1.out, G1.out, HL.out⟩
theorem one_any (w : World) (b : Nat) (A : Option Addr) (cp : Nat) (bs : List Nat) (t seed n : Nat) (h : SrcAt w b A cp bs t seed) (ht : t < 4611686018427387904) (hn : 2 ≤ n) (hn2 : n ≤ 200) :
    Calls Try.prog 56 #[.pointer (some ⟨b, 0, none⟩), .int .i64 (n : Int)] w fun e w' => ∃ (r : Bool) (seed' : Nat), e = .returned (.bool r) ∧ SrcAt w' b A cp bs (t + 1) seed' ∧ Chg (fun k => k = b) w w' := by
  have HS := Lib.hid h
  clear h
  go_enter Try.func56, Try.ntmps56
  go_wp2_with fail
  refine (pick_any _ b A cp bs t seed n HS.out ht hn hn2).mono ?_
  rintro e w1 ⟨x, sd', rfl, hx, s1, g1, hl⟩
  have S1 := Lib.hid s1
  have G1 := Lib.hid g1
  obtain ⟨y, hy⟩ : ∃ y, y = x % n := ⟨_, rfl⟩
  rw [← hy]
  clear s1 g1 hl hy
  go_wp2
  go_ret
  exact ⟨_, sd', rfl, S1.out, G1.out⟩
end Go.Proofs.Ytplabnjdhkmmkaa
end
section
set_option maxRecDepth 100000
set_option maxHeartbeats 1000000
set_option linter.unusedSimpArgs false
set_option linter.unusedVariables false
namespace Go.Proofs.Ytplabnjdhkmmkaa
open Go.ChangeShapes Go.WideShapes Go.ChangeAt Go.RowKit
def Byts (w : World) (A : Option Addr) (cp : Nat) (bs : List Nat) : Prop := bs.length ≤ 1048576 ∧ (0 < bs.length → ∃ gb go, A = some ⟨gb, go, none⟩ ∧ ∀ i (hi : i < bs.length), w.cell? ⟨gb, go + i, none⟩ = some (.int .u8 (bs[i] : Int)) ∧ bs[i] < 256)
theorem Byts.up {w w' : World} {A : Option Addr} {cp : Nat} {bs : List Nat} (h : Byts w A cp bs) (g : Up w w') : Byts w' A cp bs :=
  ⟨h.1, fun hp => by
    obtain ⟨gb, go, hA, hc⟩ := h.2 hp
    exact ⟨gb, go, hA, fun i hi => ⟨g.cell (hc i hi).1 id, (hc i hi).2⟩⟩⟩
theorem l00From_any (w : World) (A : Option Addr) (cp : Nat) (bs : List Nat) (h : Byts w A cp bs) :
    Calls Try.prog 24 #[.slice A bs.length cp] w fun e w' => e = .returned (.pointer (some ⟨w.heap.size, 0, none⟩)) ∧ SrcAt w' w.heap.size A cp bs 0 0 ∧ Up w w' := by
  have HB := Lib.hid h
  clear h
  go_enter Try.func24, Try.ntmps24
  go_wp2
  go_ret
  refine ⟨rfl, ⟨by simp, cell_new _ _ _ _, cell_new _ _ _ _, cell_new _ _ _ _, frozen_new _ _ _ _, frozen_new _ _ _ _, by omega, HB.out.1, fun hp => ?_⟩, (by repeat (first | exact Chg.refl _ _ | apply Chg.drew | apply Chg.drewN | refine Chg.alloc ?_ _))⟩
  obtain ⟨gb, go, hA, hc⟩ := HB.out.2 hp
  refine ⟨gb, go, hA, ?_, fun i hi => ⟨Chg.cell (show Up w _ from (by repeat (first | exact Chg.refl _ _ | apply Chg.drew | apply Chg.drewN | refine Chg.alloc ?_ _))) (hc i hi).1 id, (hc i hi).2⟩⟩
  have := World.block_lt_of_cell? _ _ (hc 0 hp).1
  simp only [] at this
  omega
/-- a draw out of n numbers, n from 1 -/
theorem pickS_any (w : World) (b : Nat) (A : Option Addr) (cp : Nat) (bs : List Nat) (t seed n : Nat) (h : SrcAt w b A cp bs t seed) (ht : t < 4611686018427387904) (hn : 1 ≤ n) (hn2 : n ≤ 200) :
    Calls Try.prog 54 #[.pointer (some ⟨b, 0, none⟩), .int .i64 (n : Int)] w fun e w' => ∃ x t' seed' : Nat, e = .returned (.int .i64 (x : Int)) ∧ x < n ∧ t' ≤ t + 1 ∧ SrcAt w' b A cp bs t' seed' ∧ Chg (fun k => k = b) w w' := by
  by_cases h1 : 2 ≤ n
  · refine (pick_any w b A cp bs t seed n h ht h1 hn2).mono ?_
    rintro e w' ⟨x, sd, rfl, -, s1, g1, -⟩
    exact ⟨x % n, t + 1, sd, rfl, Nat.mod_lt _ (by omega), Nat.le_refl _, s1, g1⟩
  · have HS := Lib.hid h
    have t1 : decide ((n : Int) ≤ 1) = true := decide_eq_true (by omega)
    clear h
    go_enter Try.func54, Try.ntmps54
    go_wp2
    go_ret
    have hu : Up w _ := (by repeat (first | exact Chg.refl _ _ | apply Chg.drew | apply Chg.drewN | refine Chg.alloc ?_ _))
    exact ⟨0, t, seed, rfl, by omega, by omega, HS.out.up hu, hu.mono (fun _ _ h => h.elim)⟩
end Go.Proofs.Ytplabnjdhkmmkaa
end
