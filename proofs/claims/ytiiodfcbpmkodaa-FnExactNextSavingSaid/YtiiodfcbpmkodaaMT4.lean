/- NextSaving and ApplySaving on both sides. No condition but room. -/
import Derived.Test.YtiiodfcbpmkodaaMachM
import Derived.Test.YtiiodfcbpmkodaaMZ3
import Derived.Test.YtiiodfcbpmkodaaRec
import Derived.StillTailTactics
import Derived.Laws.AppendOwnNone
import Derived.Test.YtiiodfcbpmkodaaOps
import Derived.Test.YtiiodfcbpmkodaaOwnO
import Derived.Test.YtiiodfcbpmkodaaSelf
import Derived.Lib.AppendZerosOnto
import Derived.Lib.SliceRun
import Derived.Test.YtiiodfcbpmkodaaUpR
set_option linter.unusedSimpArgs false
set_option linter.unusedVariables false
set_option maxRecDepth 100000
set_option maxHeartbeats 1000000
namespace Go.Proofs.Ytiiodfcbpmkodaa
end Go.Proofs.Ytiiodfcbpmkodaa
namespace Go.Proofs.Ytiiodfcbpmkodaa
open Go.ChangeShapes Go.WideShapes Go.ChangeAt Go.RowKit
attribute [local go_sem ↓] Go.wp_at_zero Go.wp_at_succ
theorem nextSaving_any (w : World) (S : Nat → Prop) (hS : ∀ b, S b → b < w.heap.size) (v : Value) (xs : List OpM) (h : Ops w S v xs) (n : Int) (hok : okOpsB n xs = true) (hrun : runM (newM n) xs = 0) :
    Calls Try.prog 46 #[.int .i64 n, v] w fun e w' => e = .returned (.tuple #[.agg #[.int .i64 (firstM n xs).1, .int .i64 (firstM n xs).2], .bool (decide ((firstM n xs).1 ≠ 0))]) ∧ Up w w' := by
  obtain ⟨A, c, rfl, hlc, hcm, -⟩ := h.1.shape
  have G0 := Lib.hid (((Chg.refl Nowhere w).alloc _).alloc _ : Up w ((w.alloc (.cells #[.int .i64 0, .int .i64 0] 34)).alloc (.cells #[.int .i64 0, .int .i64 0] 34)))
  have H := Lib.hid (Ops.up h G0.out)
  have HL := Lib.hid hS
  clear h hS
  have hsA : (w.alloc (.cells #[.int .i64 0, .int .i64 0] 34)).heap.size = w.heap.size + 1 := by simp
  have c1 := Lib.hid (cell_at (by simp) rfl : ((w.alloc (.cells #[.int .i64 0, .int .i64 0] 34)).alloc (.cells #[.int .i64 0, .int .i64 0] 34)).cell? ⟨w.heap.size + 1, 0, none⟩ = some (.int .i64 0))
  have c2 := Lib.hid (cell_at (by simp) rfl : ((w.alloc (.cells #[.int .i64 0, .int .i64 0] 34)).alloc (.cells #[.int .i64 0, .int .i64 0] 34)).cell? ⟨w.heap.size + 1, 1, none⟩ = some (.int .i64 0))
  have f1 : Hid (((w.alloc (.cells #[.int .i64 0, .int .i64 0] 34)).alloc (.cells #[.int .i64 0, .int .i64 0] 34)).frozen? ⟨w.heap.size + 1, 0, none⟩ = false) := Lib.hid (by have h := frozen_new (w.alloc (.cells #[.int .i64 0, .int .i64 0] 34)) #[.int .i64 0, .int .i64 0] 34 0; rw [hsA] at h; exact h)
  have f2 : Hid (((w.alloc (.cells #[.int .i64 0, .int .i64 0] 34)).alloc (.cells #[.int .i64 0, .int .i64 0] 34)).frozen? ⟨w.heap.size + 1, 1, none⟩ = false) := Lib.hid (by have h := frozen_new (w.alloc (.cells #[.int .i64 0, .int .i64 0] 34)) #[.int .i64 0, .int .i64 0] 34 1; rw [hsA] at h; exact h)
  go_enter Try.func46, Try.ntmps46
  go_wp2_with fail
  refine (rulesNs_any _ S _ xs H.out n hok hrun (w.heap.size + 1) (fun h => by have := HL.out _ h; omega) (by simp) c1.out f1.out c2.out f2.out).mono ?_
  rintro e w2 ⟨rfl, d1, d2, g1⟩
  have U := Lib.hid (Chg.new G0.out g1 (fun i hi h => by omega) : Up w w2)
  have hne : ¬ w.heap.size = w.heap.size + 1 := by omega
  have z00 : ((w.alloc (.cells #[.int .i64 0, .int .i64 0] 34)).alloc (.cells #[.int .i64 0, .int .i64 0] 34)).cell? ⟨w.heap.size, 0, none⟩ = some (.int .i64 0) := Chg.cell ((Chg.refl Nowhere (w.alloc (.cells #[.int .i64 0, .int .i64 0] 34))).alloc (.cells #[.int .i64 0, .int .i64 0] 34)) (cell_new w #[.int .i64 0, .int .i64 0] 34 0) id
  have y00 : ((w.alloc (.cells #[.int .i64 0, .int .i64 0] 34)).alloc (.cells #[.int .i64 0, .int .i64 0] 34)).frozen? ⟨w.heap.size, 0, none⟩ = false := (Chg.frozen ((Chg.refl Nowhere (w.alloc (.cells #[.int .i64 0, .int .i64 0] 34))).alloc (.cells #[.int .i64 0, .int .i64 0] 34)) (cell_new w #[.int .i64 0, .int .i64 0] 34 0) id).trans (frozen_new w #[.int .i64 0, .int .i64 0] 34 0)
  have z0 := Chg.cell g1 z00 hne
  have y0 := (Chg.frozen g1 z00 hne).trans y00
  clear z00 y00
  have z10 : ((w.alloc (.cells #[.int .i64 0, .int .i64 0] 34)).alloc (.cells #[.int .i64 0, .int .i64 0] 34)).cell? ⟨w.heap.size, 1, none⟩ = some (.int .i64 0) := Chg.cell ((Chg.refl Nowhere (w.alloc (.cells #[.int .i64 0, .int .i64 0] 34))).alloc (.cells #[.int .i64 0, .int .i64 0] 34)) (cell_new w #[.int .i64 0, .int .i64 0] 34 1) id
  have y10 : ((w.alloc (.cells #[.int .i64 0, .int .i64 0] 34)).alloc (.cells #[.int .i64 0, .int .i64 0] 34)).frozen? ⟨w.heap.size, 1, none⟩ = false := (Chg.frozen ((Chg.refl Nowhere (w.alloc (.cells #[.int .i64 0, .int .i64 0] 34))).alloc (.cells #[.int .i64 0, .int .i64 0] 34)) (cell_new w #[.int .i64 0, .int .i64 0] 34 1) id).trans (frozen_new w #[.int .i64 0, .int .i64 0] 34 1)
  have z1 := Chg.cell g1 z10 hne
  have y1 := (Chg.frozen g1 z10 hne).trans y10
  clear z10 y10
  obtain ⟨r, HR⟩ : ∃ r, Hid ((firstM n xs).1 = r) := ⟨_, Lib.hid rfl⟩
  obtain ⟨k, HK⟩ : ∃ k, Hid ((firstM n xs).2 = k) := ⟨_, Lib.hid rfl⟩
  rw [HR.out] at d1
  rw [HK.out] at d2
  clear g1 hok hrun hsA
  by_cases hr : r = 0
  · subst hr
    go_wp2
    go_region
    go_wp2
    all_goals exact bodyPost_ret (v := .tuple #[.agg #[.int .i64 0, .int .i64 k], .bool false]) (by rw [results_cell_tmp rfl]; go_simp) rfl ⟨by rw [HR.out, HK.out]; rfl, by repeat (first | exact U.out | refine Chg.drew ?_ | refine Chg.setCell ?_ (.inr (by simp)) _)⟩
  · have t1 : (r == 0) = false := by simpa using hr
    have t2 : (r != 0) = true := by simpa using hr
    go_wp2
    go_region
    go_wp2
    all_goals exact bodyPost_ret (v := .tuple #[.agg #[.int .i64 r, .int .i64 k], .bool true]) (by rw [results_cell_tmp rfl]; go_simp) rfl ⟨by rw [HR.out, HK.out, decide_eq_true hr], by repeat (first | exact U.out | refine Chg.drew ?_ | refine Chg.setCell ?_ (.inr (by simp)) _)⟩
theorem l25First_any (w : World) (S : Nat → Prop) (v : Value) (L : List Int) (h : Ints w S v L) :
    Calls Try.prog 45 #[v] w fun e w' => e = .returned (.tuple #[.agg #[.int .i64 (firstI L 0).1, .int .i64 (firstI L 0).2], .bool (decide ((firstI L 0).1 ≠ 0))]) ∧ Up w w' := by
  obtain ⟨A, c, rfl, hlc, hcm, -⟩ := h.shape
  have H := Lib.hid h
  clear h
  go_enter Try.func45, Try.ntmps45
  go_wp2
  go_loopw [4] (fun i wr => ∃ j : Nat, j ≤ L.length ∧ i = .int .i64 j ∧ wr = (w.alloc (.cells #[.int .i64 0, .int .i64 0] 34)) ∧ Hid (∀ i, i < j → L.getD i 0 = 0)) (fun i _ => L.length - (intOf i).toNat)
  case atStart => exact ⟨0, by omega, rfl, by first | rfl | trivial, fun i hi => by omega⟩
  case round =>
    obtain ⟨j, hj, rfl, rfl, hp⟩ := hrel
    have z0 : (w.alloc (.cells #[.int .i64 0, .int .i64 0] 34)).cell? ⟨w.heap.size, 0, none⟩ = some (.int .i64 0) := cell_new _ _ _ _
    have y0 : (w.alloc (.cells #[.int .i64 0, .int .i64 0] 34)).frozen? ⟨w.heap.size, 0, none⟩ = false := frozen_new _ _ _ _
    have z1 : (w.alloc (.cells #[.int .i64 0, .int .i64 0] 34)).cell? ⟨w.heap.size, 1, none⟩ = some (.int .i64 0) := cell_new _ _ _ _
    have y1 : (w.alloc (.cells #[.int .i64 0, .int .i64 0] 34)).frozen? ⟨w.heap.size, 1, none⟩ = false := frozen_new _ _ _ _
    by_cases hlt : j < L.length
    rotate_left
    · have HF := Lib.hid (firstI_none L 0 (fun i hi => hp.out i (by omega)))
      go_wp2
      exact bodyPost_ret (v := .tuple #[.agg #[.int .i64 0, .int .i64 0], .bool false]) (by rw [results_cell_tmp rfl]; go_simp) rfl ⟨by rw [HF.out]; first | rfl | (show _ = Ending.returned (.tuple #[.agg #[.int .i64 _, .int .i64 _], .bool (decide (_ ≠ 0))]); rw [decide_eq_true hx]), (Chg.refl Nowhere w).alloc _⟩
    obtain ⟨gb, go, rfl, -, hc⟩ := (H.out.up ((Chg.refl Nowhere w).alloc (.cells #[.int .i64 0, .int .i64 0] 34))).ixm hlt
    have f1 := hc j hlt
    rw [ixm_eq hlt] at f1
    have HG : Hid (L.getD j 0 = L[j]) := Lib.hid (by rw [List.getD_eq_getElem?_getD, List.getElem?_eq_getElem hlt]; rfl)
    obtain ⟨x, HX⟩ : ∃ x, Hid (L[j] = x) := ⟨L[j], Lib.hid rfl⟩
    rw [HX.out] at f1
    clear hc
    by_cases hx : x = 0
    · subst hx
      have HP : Hid (∀ i, i < j + 1 → L.getD i 0 = 0) := Lib.hid (fun i hi => by
        by_cases e : i = j
        · subst e; rw [HG.out, HX.out]
        · exact hp.out i (by omega))
      go_wp2
      go_roundw
      case rel => exact ⟨j + 1, by omega, by go_num, by first | rfl | trivial, HP.out⟩
      case measure => first | (simp [intOf]; done) | (simp [intOf]; omega)
    have t1 : (x == 0) = false := by simpa using hx
    have t2 : (x != 0) = true := by simpa using hx
    have HF := Lib.hid (firstI_at L 0 j hlt hp.out (by rw [HG.out, HX.out]; exact hx))
    rw [HG.out, HX.out, Nat.zero_add] at HF
    go_wp2
    exact bodyPost_ret (v := .tuple #[.agg #[.int .i64 x, .int .i64 j], .bool true]) (by rw [results_cell_tmp rfl]; go_simp) rfl ⟨by rw [HF.out]; first | rfl | (show _ = Ending.returned (.tuple #[.agg #[.int .i64 _, .int .i64 _], .bool (decide (_ ≠ 0))]); rw [decide_eq_true hx]), (Chg.refl Nowhere w).alloc _⟩
end Go.Proofs.Ytiiodfcbpmkodaa
namespace Go.Proofs.Ytiiodfcbpmkodaa
open Go.ChangeShapes Go.WideShapes Go.ChangeAt Go.RowKit
structure SavM where
  rule : Int
  idx : Int
def SavM.cells (x : SavM) : List Value := [.int .i64 x.rule, .int .i64 x.idx]
def SavM.ok (x : SavM) : Prop := I64 x.rule ∧ I64 x.idx
theorem SavM.cells_length (x : SavM) : x.cells.length = 2 := rfl
abbrev SavM.val (x : SavM) : Value := .agg #[.int .i64 x.rule, .int .i64 x.idx]
/-- a slice that reads as the list xs -/
def Savs (w : World) (S : Nat → Prop) (v : Value) (xs : List SavM) : Prop := Raw w S 2 v xs.length (xs.flatMap SavM.cells) ∧ ∀ x ∈ xs, x.ok
section
variable {S T : Nat → Prop} {w w' : World} {v : Value} {xs : List SavM}
theorem Savs.keep (h : Savs w S v xs) (g : Chg T w w') (hd : ∀ b, b < w.heap.size → S b → ¬ T b) : Savs w' S v xs := ⟨h.1.keep g hd, h.2⟩
theorem Savs.up (h : Savs w S v xs) (g : Up w w') : Savs w' S v xs := ⟨h.1.up g, h.2⟩
theorem Savs.mono (h : Savs w S v xs) (hs : ∀ b, b < w.heap.size → S b → T b) : Savs w T v xs := ⟨h.1.mono hs, h.2⟩
theorem Savs.shape (h : Savs w S v xs) : ∃ A c, v = .slice A xs.length c ∧ xs.length ≤ c ∧ c ≤ 9223372036854775807 ∧ (A = none → c = 0) := h.1.shape
theorem Savs.nil (w : World) (S : Nat → Prop) (c : Nat) (A : Option Addr) (hc : c ≤ 9223372036854775807) (hA : A = none → c = 0 := by simp) : Savs w S (.slice A 0 c) [] := ⟨Raw.nil w S 2 c A hc hA, by simp⟩
theorem Savs.at_ (h : Savs w S v xs) {i : Nat} (hi : i < xs.length) : ∃ b o c, v = .slice (some ⟨b, o, none⟩) xs.length c ∧ S b ∧ b < w.heap.size ∧
    ∀ j u, (xs[i].cells)[j]? = some u → w.cell? ⟨b, o + i * 2 + j, none⟩ = some u ∧ w.frozen? ⟨b, o + i * 2 + j, none⟩ = false := Raw.at_ SavM.cells_length h.1 hi
end
theorem eqSaving_same (w : World) (x : SavM) : Calls Try.prog 19 #[x.val, x.val] w fun e w' => e = .returned (.bool true) ∧ Up w w' := by
  go_enter Try.func19, Try.ntmps19
  go_wp2
  go_ret
  exact ⟨rfl, by repeat (first | exact Chg.refl _ _ | apply Chg.drew | apply Chg.drewN | refine Chg.alloc ?_ _)⟩
def MSavs (w : World) (S : Nat → Prop) (v : Value) (xs : List SavM) (k : Int) : Prop := Raw w S 2 v xs.length (markCells k (xs.length * 2))
theorem MSavs.keep {S T : Nat → Prop} {w w' : World} {v : Value} {xs : List SavM} {k : Int} (h : MSavs w S v xs k) (g : Chg T w w') (hd : ∀ b, b < w.heap.size → S b → ¬ T b) : MSavs w' S v xs k := Raw.keep h g hd
theorem MSavs.up {S : Nat → Prop} {w w' : World} {v : Value} {xs : List SavM} {k : Int} (h : MSavs w S v xs k) (g : Up w w') : MSavs w' S v xs k := Raw.up h g
/-- a slice of the call's own, from block base on -/
def OwnSavs (w : World) (base : Nat) (v : Value) (xs : List SavM) : Prop :=
  w.ownsRow base 34 2 v xs.length (xs.flatMap SavM.cells) ∧ ∀ x ∈ xs, x.ok
theorem OwnSavs.nil (w : World) (base : Nat) : OwnSavs w base (.slice none 0 0) [] := ⟨World.ownsRow_nil _ _ _ _, by simp⟩
theorem OwnSavs.made (w : World) (base : Nat) (hb : base ≤ w.heap.size) : OwnSavs (w.alloc (.cells #[] 34)) base (.slice (some ⟨w.heap.size, 0, none⟩) 0 0) [] :=
  ⟨World.ownsRow_made w _ 0 hb (by unfold Go.maxLen; omega) (by simp), by simp⟩
theorem OwnSavs.alloc {w : World} {base : Nat} {v : Value} {xs : List SavM} (h : OwnSavs w base v xs) (o : Obj) : OwnSavs (w.alloc o) base v xs := ⟨h.1.alloc o, h.2⟩
theorem OwnSavs.kept {w w' : World} {base : Nat} {v : Value} {xs : List SavM} {S : Nat → Prop} (h : OwnSavs w base v xs) (k : Chg S w w') (hS : ∀ g, v.ownBlock = some g → ¬ S g) : OwnSavs w' base v xs := by
  refine ⟨⟨h.1.1, ?_⟩, h.2⟩
  rcases h.1.2 with h2 | ⟨g, cap, cur, rfl, hg, hh, r⟩
  · exact Or.inl h2
  · exact Or.inr ⟨g, cap, cur, rfl, hg, (k.block g (Array.getElem?_eq_some_iff.1 hh).1 (hS g rfl)).trans hh, r⟩
theorem OwnSavs.up {w w' : World} {base : Nat} {v : Value} {xs : List SavM} (h : OwnSavs w base v xs) (k : Up w w') : OwnSavs w' base v xs := h.kept k fun _ _ h => h
theorem OwnSavs.rd {w : World} {base : Nat} {v : Value} {xs : List SavM} (h : OwnSavs w base v xs) : Savs w (New base w.heap.size) v xs := ⟨Raw.of_own h.1, h.2⟩
theorem OwnSavs.lt {w : World} {base : Nat} {v : Value} {xs : List SavM} (h : OwnSavs w base v xs) {g : Nat} (hg : v.ownBlock = some g) : base ≤ g ∧ g < w.heap.size := h.1.lt g hg
end Go.Proofs.Ytiiodfcbpmkodaa
namespace Go.Proofs.Ytiiodfcbpmkodaa
end Go.Proofs.Ytiiodfcbpmkodaa
namespace Go.Proofs.Ytiiodfcbpmkodaa
open Go.ChangeShapes Go.WideShapes Go.ChangeAt Go.RowKit
theorem Ops.part {w : World} {S : Nat → Prop} {A A' : Option Addr} {c c' k : Nat} {xs : List OpM} (h : Ops w S (.slice A xs.length c) xs) (i : Nat) (hik : i + k ≤ xs.length) (hc : k ≤ c') (hc2 : c' ≤ 9223372036854775807)
    (hA : ∀ b o, A = some ⟨b, o, none⟩ → 0 < k → A' = some ⟨b, o + i * 8, none⟩) (hn : A' = none → c' = 0) : Ops w S (.slice A' k c') ((xs.drop i).take k) := by
  obtain ⟨⟨hl, A0, c0, he, h1, h2, h3, h4⟩, hok⟩ := h
  obtain ⟨rfl, rfl⟩ : A = A0 ∧ c = c0 := by simpa using he
  have hlen : ((xs.drop i).take k).length = k := by rw [List.length_take, List.length_drop]; omega
  refine ⟨⟨flat_length OpM.cells 8 (fun _ => rfl) _, A', c', by rw [hlen], by rw [hlen]; exact hc, hc2, fun hp => ?_, hn⟩, fun x hx => hok x (List.mem_of_mem_drop (List.mem_of_mem_take hx))⟩
  rw [hlen] at hp
  obtain ⟨b, o, hA0, hS, hb, hcell⟩ := h3 (by omega)
  refine ⟨b, o + i * 8, hA b o hA0 hp, hS, hb, fun t ht => ?_⟩
  have htl : t < k * 8 := by rw [flat_length OpM.cells 8 (fun _ => rfl), hlen] at ht; exact ht
  have hq : t / 8 < k := by omega
  have hj : t % 8 < 8 := by omega
  have hti : (i + t / 8) * 8 + t % 8 = i * 8 + t := by omega
  have hbig : (i + t / 8) * 8 + t % 8 < (xs.flatMap OpM.cells).length := by rw [flat_length OpM.cells 8 (fun _ => rfl)]; omega
  have e1 := flat_get OpM.cells 8 (fun _ => rfl) xs (i + t / 8) (by omega) (t % 8) hj
  have e2 := flat_get OpM.cells 8 (fun _ => rfl) ((xs.drop i).take k) (t / 8) (by omega) (t % 8) hj
  have e3 : ((xs.drop i).take k)[t / 8]'(by omega) = xs[i + t / 8]'(by omega) := by simp
  rw [show t / 8 * 8 + t % 8 = t by omega, e3, ← e1, List.getElem?_eq_getElem ht, List.getElem?_eq_getElem hbig] at e2
  have e4 := hcell _ hbig
  injection e2 with e2
  rw [← e2, hti] at e4
  rwa [← Nat.add_assoc] at e4
end Go.Proofs.Ytiiodfcbpmkodaa
namespace Go.Proofs.Ytiiodfcbpmkodaa
open Go.ChangeShapes Go.WideShapes Go.ChangeAt Go.RowKit
end Go.Proofs.Ytiiodfcbpmkodaa
set_option maxRecDepth 100000
set_option maxHeartbeats 1000000
namespace Go.Proofs.Ytiiodfcbpmkodaa
open Go.ChangeShapes Go.WideShapes Go.ChangeAt Go.RowKit
end Go.Proofs.Ytiiodfcbpmkodaa
set_option maxRecDepth 100000
set_option maxHeartbeats 1000000
namespace Go.Proofs.Ytiiodfcbpmkodaa
open Go.ChangeShapes Go.WideShapes Go.ChangeAt Go.RowKit
attribute [local go_sem ↓] Go.wp_at_zero Go.wp_at_succ
def nsC (n : Int) (xs : List OpM) : Int := if optCode n xs = 0 then (if (firstM n xs).1 = 0 then 3 else 0) else optCode n xs
def nsR (n : Int) (xs : List OpM) : Int := if optCode n xs = 0 then (firstM n xs).1 else 0
def nsK (n : Int) (xs : List OpM) : Int := if optCode n xs = 0 then (if (firstM n xs).1 = 0 then 0 else ((firstM n xs).2 : Int)) else 0
theorem ns_bad {n : Int} {xs : List OpM} {cd : Int} (h : optCode n xs = cd) (h0 : cd ≠ 0) : nsC n xs = cd ∧ nsR n xs = 0 ∧ nsK n xs = 0 := by
  unfold nsC nsR nsK; rw [h, if_neg h0, if_neg h0, if_neg h0]; exact ⟨rfl, rfl, rfl⟩
theorem ns_none {n : Int} {xs : List OpM} (h : optCode n xs = 0) (h0 : (firstM n xs).1 = 0) : nsC n xs = 3 ∧ nsR n xs = 0 ∧ nsK n xs = 0 := by
  unfold nsC nsR nsK; rw [h, if_pos rfl, if_pos rfl, if_pos rfl, if_pos h0, if_pos h0]; exact ⟨rfl, h0, rfl⟩
theorem ns_some {n : Int} {xs : List OpM} {r : Int} {k : Nat} (h : optCode n xs = 0) (h1 : (firstM n xs).1 = r) (h2 : (firstM n xs).2 = k) (h0 : r ≠ 0) : nsC n xs = 0 ∧ nsR n xs = r ∧ nsK n xs = k := by
  unfold nsC nsR nsK; rw [h, if_pos rfl, if_pos rfl, if_pos rfl, h1, h2, if_neg h0, if_neg h0]; exact ⟨rfl, rfl, rfl⟩
theorem box2f (w : World) (a b : Value) (t : TypeId) : (w.alloc (.cells #[a, b] t)).frozen? ⟨w.heap.size, 0, none⟩ = false ∧ (w.alloc (.cells #[a, b] t)).frozen? ⟨w.heap.size, 1, none⟩ = false := ⟨frozen_new _ _ _ _, frozen_new _ _ _ _⟩
theorem sNextSavingT (w : World) (n : Int) (S : Nat → Prop) (v : Value) (xs : List OpM) (h : Ops w S v xs) :
    Calls Try.prog 17 #[.int .i64 n, v] w fun e w' => e = .returned (.tuple #[.agg #[.int .i64 (nsR n xs), .int .i64 (nsK n xs)], .int .i64 (nsC n xs)]) ∧ Up w w' := by
  obtain ⟨cd, HCD⟩ : ∃ cd, Hid (optCode n xs = cd) := ⟨_, Lib.hid rfl⟩
  obtain ⟨A, c, rfl, hlc, hcm, -⟩ := h.1.shape
  have U := Lib.hid ((Chg.refl Nowhere w).alloc (.cells #[.int .i64 0, .int .i64 0] 34))
  have H := Lib.hid (Ops.up (h.mono (T := fun b => b < w.heap.size) fun _ h _ => h) U.out)
  obtain ⟨z0, z1⟩ := box2 w (.int .i64 0) (.int .i64 0) 34
  obtain ⟨y0, y1⟩ := box2f w (.int .i64 0) (.int .i64 0) 34
  have Z0 := Lib.hid z0
  have Z1 := Lib.hid z1
  have Y0 := Lib.hid y0
  have Y1 := Lib.hid y1
  clear h z0 z1 y0 y1
  go_enter Try.func17, Try.ntmps17
  go_wp2_with fail
  refine (l25Rules_any _ _ _ xs H.out n).mono ?_
  rintro e w1 ⟨v1, rfl, k1, g1⟩
  obtain ⟨A1, c1, rfl, hl1, hc1, -⟩ := k1.shape
  have K1 := Lib.hid k1
  clear k1
  have z0 := Chg.cell g1 Z0.out id
  have z1 := Chg.cell g1 Z1.out id
  have y0 := (Chg.frozen g1 Z0.out id).trans Y0.out
  have y1 := (Chg.frozen g1 Z1.out id).trans Y1.out
  replace H := Lib.hid (Ops.up H.out g1)
  replace U := Lib.hid (Chg.trans U.out g1)
  have hz1 := g1.size
  have HZ : Hid (w.heap.size < w1.heap.size) := Lib.hid (by have : (w.alloc (.cells #[.int .i64 0, .int .i64 0] 34)).heap.size = w.heap.size + 1 := by simp
                                                            omega)
  clear g1 hz1 Z0 Z1 Y0 Y1
  rw [HCD.out]
  by_cases hcd : cd = 0
  rotate_left
  · have t1 : (cd == 0) = false := by simpa using hcd
    have t2 : (cd != 0) = true := by simpa using hcd
    have HV := Lib.hid (ns_bad HCD.out hcd)
    go_wp2
    exact bodyPost_ret (v := .tuple #[.agg #[.int .i64 0, .int .i64 0], .int .i64 cd]) (by rw [results_cell_tmp rfl]; go_simp) rfl ⟨by rw [HV.out.1, HV.out.2.1, HV.out.2.2], by repeat (first | exact U.out | refine Chg.drew ?_ | refine Chg.alloc ?_ _ | refine Chg.setCell ?_ (.inr (by simp)) _)⟩
  have Z0 := Lib.hid z0
  have Z1 := Lib.hid z1
  have Y0 := Lib.hid y0
  have Y1 := Lib.hid y1
  clear z0 z1 y0 y1
  subst hcd
  obtain ⟨hok, hrun⟩ := opt_ok HCD.out
  have HOK := Lib.hid hok
  have HRUN := Lib.hid hrun
  clear hok hrun
  go_wp2_with fail
  refine (l25First_any _ _ _ (rulesOut n xs) K1.out).mono ?_
  rintro e w2 ⟨rfl, g2⟩
  rw [rulesOut_ok HCD.out, show firstI (rulesM (newM n) xs) 0 = firstM n xs from rfl]
  replace U := Lib.hid (Chg.trans U.out g2)
  replace HZ := Lib.hid (Nat.lt_of_lt_of_le HZ.out g2.size)
  obtain ⟨r, HR⟩ : ∃ r, Hid ((firstM n xs).1 = r) := ⟨_, Lib.hid rfl⟩
  obtain ⟨k, HK⟩ : ∃ k, Hid ((firstM n xs).2 = k) := ⟨_, Lib.hid rfl⟩
  rw [HR.out, HK.out]
  have g3 := g2.alloc (.cells #[.int .i64 r, .int .i64 k] 34)
  have z0 := Chg.cell g2 Z0.out id
  have z1 := Chg.cell g2 Z1.out id
  have y0 := (Chg.frozen g2 Z0.out id).trans Y0.out
  have y1 := (Chg.frozen g2 Z1.out id).trans Y1.out
  have Z0' := Lib.hid z0
  have Z1' := Lib.hid z1
  have Y0' := Lib.hid y0
  have Y1' := Lib.hid y1
  have x0 := Chg.cell ((Chg.refl Nowhere w2).alloc (.cells #[.int .i64 r, .int .i64 k] 34)) z0 id
  have x1 := Chg.cell ((Chg.refl Nowhere w2).alloc (.cells #[.int .i64 r, .int .i64 k] 34)) z1 id
  have v0 := (Chg.frozen ((Chg.refl Nowhere w2).alloc (.cells #[.int .i64 r, .int .i64 k] 34)) z0 id).trans y0
  have v1 := (Chg.frozen ((Chg.refl Nowhere w2).alloc (.cells #[.int .i64 r, .int .i64 k] 34)) z1 id).trans y1
  clear Z0' Z1' Y0' Y1'
  obtain ⟨c0, c1⟩ := box2 w2 (.int .i64 r) (.int .i64 k) 34
  clear g2 g3 Z0 Z1 Y0 Y1
  have hne : w.heap.size < w2.heap.size := HZ.out
  by_cases hr : r = 0
  · have t3 : decide (r ≠ 0) = false := by simpa using hr
    have HV := Lib.hid (ns_none HCD.out (HR.out.trans hr))
    rw [t3]
    clear t3 hr
    go_wp2
    exact bodyPost_ret (v := .tuple #[.agg #[.int .i64 0, .int .i64 0], .int .i64 3]) (by rw [results_cell_tmp rfl]; go_simp) rfl ⟨by rw [HV.out.1, HV.out.2.1, HV.out.2.2], by repeat (first | exact U.out | refine Chg.drew ?_ | refine Chg.alloc ?_ _ | refine Chg.setCell ?_ (.inr (by simp)) _)⟩
  · have t3 : decide (r ≠ 0) = true := by simpa using hr
    have HV := Lib.hid (ns_some HCD.out HR.out HK.out hr)
    rw [t3]
    clear t3 hr
    go_wp2
    exact bodyPost_ret (v := .tuple #[.agg #[.int .i64 r, .int .i64 k], .int .i64 0]) (by rw [results_cell_tmp rfl]; go_simp) rfl ⟨by rw [HV.out.1, HV.out.2.1, HV.out.2.2], by repeat (first | exact U.out | refine Chg.drew ?_ | refine Chg.alloc ?_ _ | refine Chg.setCell ?_ (.inr (by simp)) _)⟩
theorem NextSavingT (w : World) (n : Int) (S : Nat → Prop) (v : Value) (xs : List OpM) (h : Ops w S v xs) :
    Calls Try.prog 18 #[.int .i64 n, v] w fun e w' => e = .returned (.tuple #[.agg #[.int .i64 (nsR n xs), .int .i64 (nsK n xs)], .int .i64 (nsC n xs)]) ∧ Up w w' := by
  obtain ⟨cd, HCD⟩ : ∃ cd, Hid (optCode n xs = cd) := ⟨_, Lib.hid rfl⟩
  obtain ⟨A, c, rfl, hlc, hcm, -⟩ := h.1.shape
  have U := Lib.hid ((Chg.refl Nowhere w).alloc (.cells #[.int .i64 0, .int .i64 0] 34))
  have H := Lib.hid (Ops.up (h.mono (T := fun b => b < w.heap.size) fun _ h _ => h) U.out)
  obtain ⟨z0, z1⟩ := box2 w (.int .i64 0) (.int .i64 0) 34
  obtain ⟨y0, y1⟩ := box2f w (.int .i64 0) (.int .i64 0) 34
  have Z0 := Lib.hid z0
  have Z1 := Lib.hid z1
  have Y0 := Lib.hid y0
  have Y1 := Lib.hid y1
  clear h z0 z1 y0 y1
  go_enter Try.func18, Try.ntmps18
  go_wp2_with fail
  refine (runCode_any _ _ _ xs H.out n).mono ?_
  rintro e w1 ⟨rfl, g1⟩
  have z0 := Chg.cell g1 Z0.out id
  have z1 := Chg.cell g1 Z1.out id
  have y0 := (Chg.frozen g1 Z0.out id).trans Y0.out
  have y1 := (Chg.frozen g1 Z1.out id).trans Y1.out
  replace H := Lib.hid (Ops.up H.out g1)
  replace U := Lib.hid (Chg.trans U.out g1)
  have hz1 := g1.size
  have HZ : Hid (w.heap.size < w1.heap.size) := Lib.hid (by have : (w.alloc (.cells #[.int .i64 0, .int .i64 0] 34)).heap.size = w.heap.size + 1 := by simp
                                                            omega)
  clear g1 hz1 Z0 Z1 Y0 Y1
  rw [HCD.out]
  by_cases hcd : cd = 0
  rotate_left
  · have t1 : (cd == 0) = false := by simpa using hcd
    have t2 : (cd != 0) = true := by simpa using hcd
    have HV := Lib.hid (ns_bad HCD.out hcd)
    go_wp2
    exact bodyPost_ret (v := .tuple #[.agg #[.int .i64 0, .int .i64 0], .int .i64 cd]) (by rw [results_cell_tmp rfl]; go_simp) rfl ⟨by rw [HV.out.1, HV.out.2.1, HV.out.2.2], by repeat (first | exact U.out | refine Chg.drew ?_ | refine Chg.alloc ?_ _ | refine Chg.setCell ?_ (.inr (by simp)) _)⟩
  have Z0 := Lib.hid z0
  have Z1 := Lib.hid z1
  have Y0 := Lib.hid y0
  have Y1 := Lib.hid y1
  clear z0 z1 y0 y1
  subst hcd
  obtain ⟨hok, hrun⟩ := opt_ok HCD.out
  have HOK := Lib.hid hok
  have HRUN := Lib.hid hrun
  clear hok hrun
  go_wp2_with fail
  refine (nextSaving_any _ (fun b => b < w.heap.size) (fun _ h => Nat.lt_trans h HZ.out) _ xs H.out n HOK.out HRUN.out).mono ?_
  rintro e w2 ⟨rfl, g2⟩
  replace U := Lib.hid (Chg.trans U.out g2)
  replace HZ := Lib.hid (Nat.lt_of_lt_of_le HZ.out g2.size)
  obtain ⟨r, HR⟩ : ∃ r, Hid ((firstM n xs).1 = r) := ⟨_, Lib.hid rfl⟩
  obtain ⟨k, HK⟩ : ∃ k, Hid ((firstM n xs).2 = k) := ⟨_, Lib.hid rfl⟩
  rw [HR.out, HK.out]
  have g3 := g2.alloc (.cells #[.int .i64 r, .int .i64 k] 34)
  have z0 := Chg.cell g2 Z0.out id
  have z1 := Chg.cell g2 Z1.out id
  have y0 := (Chg.frozen g2 Z0.out id).trans Y0.out
  have y1 := (Chg.frozen g2 Z1.out id).trans Y1.out
  have Z0' := Lib.hid z0
  have Z1' := Lib.hid z1
  have Y0' := Lib.hid y0
  have Y1' := Lib.hid y1
  have x0 := Chg.cell ((Chg.refl Nowhere w2).alloc (.cells #[.int .i64 r, .int .i64 k] 34)) z0 id
  have x1 := Chg.cell ((Chg.refl Nowhere w2).alloc (.cells #[.int .i64 r, .int .i64 k] 34)) z1 id
  have v0 := (Chg.frozen ((Chg.refl Nowhere w2).alloc (.cells #[.int .i64 r, .int .i64 k] 34)) z0 id).trans y0
  have v1 := (Chg.frozen ((Chg.refl Nowhere w2).alloc (.cells #[.int .i64 r, .int .i64 k] 34)) z1 id).trans y1
  clear Z0' Z1' Y0' Y1'
  obtain ⟨c0, c1⟩ := box2 w2 (.int .i64 r) (.int .i64 k) 34
  clear g2 g3 Z0 Z1 Y0 Y1
  have hne : w.heap.size < w2.heap.size := HZ.out
  by_cases hr : r = 0
  · have t3 : decide (r ≠ 0) = false := by simpa using hr
    have HV := Lib.hid (ns_none HCD.out (HR.out.trans hr))
    rw [t3]
    clear t3 hr
    go_wp2
    exact bodyPost_ret (v := .tuple #[.agg #[.int .i64 0, .int .i64 0], .int .i64 3]) (by rw [results_cell_tmp rfl]; go_simp) rfl ⟨by rw [HV.out.1, HV.out.2.1, HV.out.2.2], by repeat (first | exact U.out | refine Chg.drew ?_ | refine Chg.alloc ?_ _ | refine Chg.setCell ?_ (.inr (by simp)) _)⟩
  · have t3 : decide (r ≠ 0) = true := by simpa using hr
    have HV := Lib.hid (ns_some HCD.out HR.out HK.out hr)
    rw [t3]
    clear t3 hr
    go_wp2
    exact bodyPost_ret (v := .tuple #[.agg #[.int .i64 r, .int .i64 k], .int .i64 0]) (by rw [results_cell_tmp rfl]; go_simp) rfl ⟨by rw [HV.out.1, HV.out.2.1, HV.out.2.2], by repeat (first | exact U.out | refine Chg.drew ?_ | refine Chg.alloc ?_ _ | refine Chg.setCell ?_ (.inr (by simp)) _)⟩
end Go.Proofs.Ytiiodfcbpmkodaa
