/- Arguments that are slices of records of whole numbers, as lists. No condition. Arguments that are structs with a slice of numbers. No condition. Arguments that are nested slices, and slices of structs with slices. No condition. Arguments that are proofs. No condition. Arguments that are machines: carriers and loops. No condition. The laws' helpers on machines in the form that the laws' walk wants. No condition but room. Machines: the lists on a bed, joined. No condition. slices.Grow of nil and slices.Concat at slices of lists of numbers. Condition: room. Machines: the program's tests on loops. No condition. Machines: the program's areApart. No condition. Machines: the program's ValidMachine. No condition. An append of numbers in a region that draws its order (out of MApp). No condition. Machines: the reference's l07Ok. No condition. Racking: the reference's steps. No condition. The reference's machine, read as racking reads it: beds, what lies ahead of a needle, a needle's loops. No condition. Slices of needles as data: reading, appending. No condition. Plain words: the order of a machine's needles while the rack takes a step. No condition. Crossings of two blocks of strands, on both sides. No condition. Racking: the program's needles in order. No condition. -/
import Derived.Test.YtplabnjdhkmmkaaPF4
import Derived.Test.YtplabnjdhkmmkaaPF5
import Derived.Deep.Slices
import Derived.Deep.Fields
import Derived.ChangeSame
import Derived.Test.YtplabnjdhkmmkaaPF6
import Derived.Lib.SmallJoins
import Derived.Test.YtplabnjdhkmmkaaPF10
import Derived.Test.YtplabnjdhkmmkaaPF11
import Derived.Laws.AppendOwnNone
import Derived.Lib.AppendZerosOnto
import Derived.Lib.SliceRun
import Derived.Test.YtplabnjdhkmmkaaPF18
import Derived.Test.YtplabnjdhkmmkaaPF2
import Derived.Deep.RegionHeld3
import Derived.Deep.RegionLaw
import Derived.Test.YtplabnjdhkmmkaaPF16
import Derived.StillTailTactics
import Derived.Deep.DeepCutAuto
section
set_option linter.unusedSimpArgs false
set_option linter.unusedVariables false
namespace Go.Proofs.Ytplabnjdhkmmkaa
open Go.ChangeShapes Go.WideShapes Go.ChangeAt Go.RowKit Go.Deep
section
variable {H : Type} {enc : TypeId × Value → H} {P : Program} {w : World}
end
section
variable {H : Type} {enc : TypeId × Value → H} {w : World}
end
end Go.Proofs.Ytplabnjdhkmmkaa
end
section
set_option linter.unusedSimpArgs false
set_option linter.unusedVariables false
namespace Go.Proofs.Ytplabnjdhkmmkaa
open Go.ChangeShapes Go.WideShapes Go.ChangeAt Go.RowKit Go.Deep
end Go.Proofs.Ytplabnjdhkmmkaa
end
section
set_option linter.unusedSimpArgs false
set_option linter.unusedVariables false
namespace Go.Proofs.Ytplabnjdhkmmkaa
open Go.ChangeShapes Go.WideShapes Go.ChangeAt Go.RowKit Go.Deep
section
variable {H : Type} {enc : TypeId × Value → H} {P : Program} {w : World}
end
end Go.Proofs.Ytplabnjdhkmmkaa
end
section
set_option linter.unusedSimpArgs false
set_option linter.unusedVariables false
namespace Go.Proofs.Ytplabnjdhkmmkaa
open Go.ChangeShapes Go.WideShapes Go.ChangeAt Go.RowKit Go.Deep
section
variable {H : Type} {enc : TypeId × Value → H} {w : World}
end
/-- a proof, as an argument -/
def ProofA (w : World) (S : Nat → Prop) (v : Value) (p : ProofM) : Prop := ProofV w S S S v p
theorem ProofA.up {w w' : World} {S : Nat → Prop} {v : Value} {p : ProofM} (h : ProofA w S v p) (g : Up w w') : ProofA w' S v p := ProofV.up h g
end Go.Proofs.Ytplabnjdhkmmkaa
end
section
set_option linter.unusedSimpArgs false
set_option linter.unusedVariables false
namespace Go.Proofs.Ytplabnjdhkmmkaa
open Go.ChangeShapes Go.WideShapes Go.ChangeAt Go.RowKit Go.Deep
section
variable {H : Type} {enc : TypeId × Value → H} {w : World}
end
/-- a machine, as an argument -/
def MacA (w : World) (S : Nat → Prop) (v : Value) (p : MacM) : Prop := MacV w S S S v p
theorem MacA.up {w w' : World} {S : Nat → Prop} {v : Value} {p : MacM} (h : MacA w S v p) (g : Up w w') : MacA w' S v p := MacV.up h g
end Go.Proofs.Ytplabnjdhkmmkaa
end
section
set_option linter.unusedSimpArgs false
set_option linter.unusedVariables false
namespace Go.Proofs.Ytplabnjdhkmmkaa
open Go.ChangeShapes Go.WideShapes Go.ChangeAt Go.RowKit
end Go.Proofs.Ytplabnjdhkmmkaa
end
section
set_option maxRecDepth 100000
set_option maxHeartbeats 4000000
set_option linter.unusedSimpArgs false
set_option linter.unusedVariables false
namespace Go.Proofs.Ytplabnjdhkmmkaa
open Go.ChangeShapes Go.WideShapes Go.ChangeAt Go.RowKit
end Go.Proofs.Ytplabnjdhkmmkaa
end
section
set_option linter.unusedSimpArgs false
set_option linter.unusedVariables false
namespace Go.Proofs.Ytplabnjdhkmmkaa
open Go.ChangeShapes Go.WideShapes Go.ChangeAt Go.RowKit
/-- a row of lists of the call's own; the lists lie in blocks of L -/
def OwnLL (w : World) (base : Nat) (L : Nat → Prop) (v : Value) (xss : List (List Int)) : Prop :=
  ∃ vs, w.ownsRow base 23 1 v xss.length vs ∧ vs.length = xss.length ∧ ∀ i (hi : i < xss.length), IntsE L w ((vs.drop i).take 1) xss[i]
theorem OwnLL.nil (w : World) (base : Nat) (L : Nat → Prop) : OwnLL w base L (.slice none 0 0) [] := ⟨[], World.ownsRow_nil _ _ _ _, rfl, fun i hi => absurd hi (by simp)⟩
theorem OwnLL.rd {w : World} {base : Nat} {L : Nat → Prop} {v : Value} {xss : List (List Int)} (h : OwnLL w base L v xss) (M : Nat → Prop) : IntSSV w M (New base w.heap.size) L v xss := by
  obtain ⟨vs, h1, h2, h3⟩ := h
  exact ⟨vs, Raw.of_own h1, fun i hi => by simpa using h3 i hi⟩
end Go.Proofs.Ytplabnjdhkmmkaa
end
section
set_option maxRecDepth 100000
set_option maxHeartbeats 4000000
set_option linter.unusedSimpArgs false
set_option linter.unusedVariables false
namespace Go.Proofs.Ytplabnjdhkmmkaa
open Go.ChangeShapes Go.WideShapes Go.ChangeAt Go.RowKit
end Go.Proofs.Ytplabnjdhkmmkaa
end
section
set_option maxRecDepth 100000
set_option maxHeartbeats 4000000
set_option linter.unusedSimpArgs false
set_option linter.unusedVariables false
namespace Go.Proofs.Ytplabnjdhkmmkaa
open Go.ChangeShapes Go.WideShapes Go.ChangeAt Go.RowKit
/-- the numbers that were met -/
def SeenN (w : World) (g n : Nat) (ys : List Int) : Prop := ∀ t : Nat, t < n → w.cell? ⟨g, t, none⟩ = some (.bool (decide ((t : Int) ∈ ys))) ∧ w.frozen? ⟨g, t, none⟩ = false
theorem SeenN.up {w w' : World} {g n : Nat} {ys : List Int} (h : SeenN w g n ys) (k : Up w w') : SeenN w' g n ys := fun t ht => ⟨k.cell (h t ht).1 id, (k.frozen (h t ht).1 id).trans (h t ht).2⟩
theorem SeenN.next {w : World} {g n k : Nat} {ys : List Int} {x : Int} (h : SeenN w g n ys) (hk : x = k) (hk2 : k < n) : SeenN (w.setCell ⟨g, k, none⟩ (.bool true)) g n (ys ++ [x]) := fun t ht => by
  obtain ⟨h1, h2⟩ := h t ht
  by_cases e : t = k
  · subst e
    exact ⟨by rw [World.cell?_setCell_same _ _ _ h1]; simp [hk], by simpa using h2⟩
  · rw [World.cell?_setCell_other _ _ _ _ (fun h => e (by injection h with _ h _; exact h.symm))]
    refine ⟨?_, by simpa using h2⟩
    rw [h1]
    have : ((t : Int) ∈ ys ++ [x]) = ((t : Int) ∈ ys) := by
      rw [List.mem_append, List.mem_singleton, hk]
      exact propext ⟨fun h => h.elim id (fun h => absurd (by omega) e), .inl⟩
    simp only [this]
theorem SeenN.made (w : World) (n : Nat) (e : TypeId) : SeenN (w.alloc (.cells (madeCells #[.bool false] n) e)) w.heap.size n [] := fun t ht => ⟨by
  rw [cell_new]
  simp [madeCells, ht, Nat.mod_one], frozen_new _ _ _ _⟩
theorem IntSSV.one {w : World} {M L : Nat → Prop} {g : Nat} {A : Option Addr} {c : Nat} {xs : List Int} (hc : w.cell? ⟨g, 0, none⟩ = some (.slice A xs.length c)) (hf : w.frozen? ⟨g, 0, none⟩ = false) (hg : g < w.heap.size) (h : Ints w L (.slice A xs.length c) xs) (h1 : xs.length ≤ c) (h2 : c ≤ 9223372036854775807) : IntSSV w M (fun b => b = g) L (.slice (some ⟨g, 0, none⟩) 1 1) [xs] :=
  ⟨[.slice A xs.length c], Raw.of_cells (n := 1) (k := 1) rfl hg rfl (Nat.le_refl _) (by omega) (fun t ht => by
    have : t = 0 := by simpa using ht
    subst this
    exact ⟨hc, hf⟩), fun i hi => by
    have : i = 0 := by simpa using hi
    subst this
    exact ⟨A, c, rfl, h, h1, h2⟩⟩
end Go.Proofs.Ytplabnjdhkmmkaa
end
section
set_option maxRecDepth 100000
set_option maxHeartbeats 4000000
set_option linter.unusedSimpArgs false
set_option linter.unusedVariables false
namespace Go.Proofs.Ytplabnjdhkmmkaa
open Go.ChangeShapes Go.WideShapes Go.ChangeAt Go.RowKit
end Go.Proofs.Ytplabnjdhkmmkaa
end
section
set_option linter.unusedSimpArgs false
set_option linter.unusedVariables false
namespace Go.Proofs.Ytplabnjdhkmmkaa
open Go.ChangeShapes Go.WideShapes Go.ChangeAt Go.RowKit
end Go.Proofs.Ytplabnjdhkmmkaa
end
section
set_option maxRecDepth 100000
set_option maxHeartbeats 4000000
set_option linter.unusedSimpArgs false
set_option linter.unusedVariables false
namespace Go.Proofs.Ytplabnjdhkmmkaa
open Go.ChangeShapes Go.WideShapes Go.ChangeAt Go.RowKit
end Go.Proofs.Ytplabnjdhkmmkaa
end
section
set_option maxRecDepth 100000
set_option maxHeartbeats 400000
set_option linter.unusedSimpArgs false
set_option linter.unusedVariables false
namespace Go.Proofs.Ytplabnjdhkmmkaa
open Go.ChangeShapes Go.WideShapes Go.ChangeAt Go.RowKit
theorem preL_min {xss : List (List Int)} {j X : Nat} (h : j < xss.length) : preL xss (min (j + 1) X) = preL xss (min j X) + if j < X then xss[j].length else 0 := by
  by_cases c : j < X
  · rw [if_pos c, Nat.min_eq_left (by omega), Nat.min_eq_left (by omega), preL_succ h]
  · rw [if_neg c, Nat.min_eq_right (by omega), Nat.min_eq_right (by omega), Nat.add_zero]
theorem preL_top {xss : List (List Int)} (X : Nat) : preL xss (min xss.length X) = preL xss X := by
  by_cases c : X ≤ xss.length
  · rw [Nat.min_eq_right c]
  · rw [Nat.min_eq_left (by omega), preL_over (show xss.length ≤ X by omega)]
theorem sPlace_fr (w : World) (bd : Int) (hbd : (bd == 2) = false) (at_ r x : Int) (hx : x = at_) (h : -10 ≤ at_ ∧ at_ ≤ 100) (hr : -10 ≤ r ∧ r ≤ 10) : Calls Try.prog 93 #[.agg #[.int .i64 bd, .int .i64 at_], .int .i64 r] w fun e w' => e = .returned (.int .i64 x) ∧ Up w w' := by
  subst hx
  go_enter Try.func93, Try.ntmps93
  go_wp2
  go_ret
  exact ⟨rfl, (by repeat (first | exact Chg.refl _ _ | apply Chg.drew | apply Chg.drewN | refine Chg.alloc ?_ _))⟩
theorem sPlace_back (w : World) (at_ r x : Int) (hx : x = at_ + r) (h : -10 ≤ at_ ∧ at_ ≤ 100) (hr : -10 ≤ r ∧ r ≤ 10) : Calls Try.prog 93 #[.agg #[.int .i64 2, .int .i64 at_], .int .i64 r] w fun e w' => e = .returned (.int .i64 x) ∧ Up w w' := by
  subst hx
  go_enter Try.func93, Try.ntmps93
  go_wp2
  go_ret
  exact ⟨rfl, (by repeat (first | exact Chg.refl _ _ | apply Chg.drew | apply Chg.drewN | refine Chg.alloc ?_ _))⟩
theorem Before_fr (w : World) (M H L : Nat → Prop) (bm : Nat) (p : MacM) (hp : FewM p) (r : Int) (hr : -10 ≤ r ∧ r ≤ 10) (A0 A1 : Option Addr) (c0 c1 : Nat) (q0 : w.cell? ⟨bm, 0, none⟩ = some (.int .i64 p.wd)) (q1 : w.cell? ⟨bm, 1, none⟩ = some (.int .i64 r)) (q2 : w.cell? ⟨bm, 2, none⟩ = some (.slice A0 p.fr.length c0)) (q3 : w.cell? ⟨bm, 3, none⟩ = some (.slice A1 p.bk.length c1)) (h0 : IntSSV w M H L (.slice A0 p.fr.length c0) p.fr) (h1 : IntSSV w M H L (.slice A1 p.bk.length c1) p.bk) (bd : Int) (hbd : (bd == 2) = false) (at_ : Int) (hat : 0 ≤ at_ ∧ at_ < p.fr.length) :
    Calls Try.prog 96 #[.pointer (some ⟨bm, 0, none⟩), .agg #[.int .i64 bd, .int .i64 at_]] w fun e w' => e = .returned (.int .i64 (befM p at_ (at_ - r))) ∧ Up w w' := by
  have H0 := Lib.hid h0
  have H1 := Lib.hid h1
  have Q0 := Lib.hid q0
  have Q1 := Lib.hid q1
  have Q2 := Lib.hid q2
  have Q3 := Lib.hid q3
  have HP := Lib.hid hp
  have hn := hp.n1
  have HR := Lib.hid hr
  have HAT := Lib.hid hat
  clear h0 h1
  have b0 := (show (w.alloc (.cells #[.int .i64 bd, .int .i64 at_] 74)).cell? ⟨w.heap.size, 0, none⟩ = some (.int .i64 bd) from cell_new _ _ _ _)
  have b1 := (show (w.alloc (.cells #[.int .i64 bd, .int .i64 at_] 74)).cell? ⟨w.heap.size, 1, none⟩ = some (.int .i64 at_) from cell_new _ _ _ _)
  have B0 := Lib.hid b0
  have q1' := Chg.cell ((Chg.refl Nowhere w).alloc (.cells #[.int .i64 bd, .int .i64 at_] 74)) q1 id
  obtain ⟨x, hx⟩ : ∃ x, x = at_ := ⟨_, rfl⟩
  have HX := Lib.hid hx
  have HPL : ∀ u : UpOf (w.alloc (.cells #[.int .i64 bd, .int .i64 at_] 74)), Calls Try.prog 93 #[.agg #[.int .i64 bd, .int .i64 at_], .int .i64 r] u.wd fun e w'' => e = .returned (.int .i64 x) ∧ ∃ u' : UpOf (w.alloc (.cells #[.int .i64 bd, .int .i64 at_] 74)), w'' = u'.wd := fun u => calls_up (sPlace_fr u.wd bd hbd at_ r x hx (by omega) hr)
  clear hx
  clear q0 q2 q3
  go_enter Try.func96, Try.ntmps96
  go_wp2
  have g0 := up_cell b0
  have g1 := up_cell b1
  have g2 := up_cell q1'
  refine wp_region_up (by kernel_rfl) (by kernel_rfl) ?_
  repeat (go_big_quiet_step ((first | (go_at_call 93; exact HPL _))))
  refine wpQuiet_nil ?_
  rintro w1 ⟨u0, hu0⟩
  have gu := hu0 ▸ u0.up
  clear hu0 u0 g0 g1 g2 HPL b0 b1 q1' q1
  have UB := Lib.hid (show Up (w.alloc (.cells #[.int .i64 bd, .int .i64 at_] 74)) w1 from Chg.trans (by repeat (first | exact Chg.refl _ _ | apply Chg.drew | apply Chg.drewN | refine Chg.alloc ?_ _)) gu)
  have U1 := Lib.hid (Chg.trans ((Chg.refl Nowhere w).alloc (.cells #[.int .i64 bd, .int .i64 at_] 74)) UB.out)
  clear gu
  go_wp2
  go_loopw [6, 7] (fun s i wr => ∃ j : Nat, j ≤ p.fr.length ∧ i = .int .i64 j ∧ s = .int .i64 ((preL p.fr (min j x.toNat) : Int) + preL p.bk (min j (x - r).toNat)) ∧ Hid (Up w1 wr)) (fun _ i _ => p.fr.length - (intOf i).toNat)
  case atStart => exact ⟨0, by omega, rfl, by simp [preL_zero], Chg.refl _ _⟩
  case round =>
    obtain ⟨j, hj, rfl, rfl, hu⟩ := hrel
    have U2 := Lib.hid (Chg.trans U1.out hu.out)
    have q0 := Chg.cell U2.out Q0.out id
    have q1 := Chg.cell U2.out Q1.out id
    have q2 := Chg.cell U2.out Q2.out id
    have q3 := Chg.cell U2.out Q3.out id
    have b0 := Chg.cell (Chg.trans UB.out hu.out) B0.out id
    rw [HP.out.wd] at q0
    by_cases hlt : j < p.fr.length
    · have hjb : j < p.bk.length := by have := HP.out.n2; omega
      obtain ⟨b3, o3, c3', vs3, he3, -, -, -, hE3, hc3⟩ := (H1.out.up U2.out).at_ hjb
      obtain ⟨rfl, rfl⟩ : A1 = some ⟨b3, o3, none⟩ ∧ c1 = c3' := by simpa using he3
      obtain ⟨A7, k7, rfl, -, -, -⟩ := hE3.val
      have e1 := (hc3 0 _ rfl).1
      simp only [Nat.mul_one, Nat.add_zero] at e1
      clear hc3 he3 hE3
      obtain ⟨b4, o4, c4', vs4, he4, -, -, -, hE4, hc4⟩ := (H0.out.up U2.out).at_ hlt
      obtain ⟨rfl, rfl⟩ : A0 = some ⟨b4, o4, none⟩ ∧ c0 = c4' := by simpa using he4
      obtain ⟨A8, k8, rfl, -, -, -⟩ := hE4.val
      have e2 := (hc4 0 _ rfl).1
      simp only [Nat.mul_one, Nat.add_zero] at e2
      clear hc4 he4 hE4
      have HF := Lib.hid (preL_min (X := x.toNat) hlt)
      have HB := Lib.hid (preL_min (X := (x - r).toNat) hjb)
      have hlf := preL_le HP.out.f (min j x.toNat)
      have hlb := preL_le HP.out.b (min j (x - r).toNat)
      have hbb := HP.out.n2
      obtain ⟨sf, hsf⟩ : ∃ s, s = preL p.fr (min j x.toNat) := ⟨_, rfl⟩
      obtain ⟨sb, hsb⟩ : ∃ s, s = preL p.bk (min j (x - r).toNat) := ⟨_, rfl⟩
      rw [← hsf] at HF hlf ⊢
      rw [← hsb] at HB hlb ⊢
      have HSF := Lib.hid hsf
      have HSB := Lib.hid hsb
      clear hsf hsb
      have f4 := HP.out.f j hlt
      have b4' := HP.out.b j hjb
      have hr2 := HR.out
      have hat2 := HAT.out
      have hx2 := HX.out
      have HX2 : Hid (-10 ≤ x ∧ x ≤ 40) := Lib.hid (by omega)
      clear hx2
      have hxb := HX2.out
      rcases Int.lt_trichotomy (j : Int) x with hc | hc | hc
      · skip
        have d1 : decide ((j : Int) < x) = true := decide_eq_true hc
        have HFV := Lib.hid (HF.out.trans (by rw [if_pos (by omega)]))
        by_cases hd : (j : Int) + r < x
        · have d2 : decide ((j : Int) + r < x) = true := decide_eq_true hd
          have HBV := Lib.hid (HB.out.trans (by rw [if_pos (by omega)]))
          clear hd hc
          go_wp2
          go_roundw
          case rel => exact ⟨j + 1, by omega, by go_num, by rw [HFV.out, HBV.out]; simp only [Value.int.injEq, true_and]; omega, hu⟩
          case measure => first | (simp [intOf]; done) | (simp [intOf]; omega)
        · have d2 : decide ((j : Int) + r < x) = false := decide_eq_false hd
          have HBV := Lib.hid (HB.out.trans (by rw [if_neg (by omega)]))
          clear hd hc
          go_wp2
          go_roundw
          case rel => exact ⟨j + 1, by omega, by go_num, by rw [HFV.out, HBV.out]; simp only [Value.int.injEq, true_and]; omega, hu⟩
          case measure => first | (simp [intOf]; done) | (simp [intOf]; omega)
      · skip
        have d1 : decide ((j : Int) < x) = false := decide_eq_false (by omega)
        have d3 : ((j : Int) == x) = true := by simp [hc]
        have HFV := Lib.hid (HF.out.trans (by rw [if_neg (by omega)]))
        by_cases hd : (j : Int) + r < x
        · have d2 : decide ((j : Int) + r < x) = true := decide_eq_true hd
          have HBV := Lib.hid (HB.out.trans (by rw [if_pos (by omega)]))
          clear hd hc
          go_wp2
          go_roundw
          case rel => exact ⟨j + 1, by omega, by go_num, by rw [HFV.out, HBV.out]; simp only [Value.int.injEq, true_and]; omega, hu⟩
          case measure => first | (simp [intOf]; done) | (simp [intOf]; omega)
        · have d2 : decide ((j : Int) + r < x) = false := decide_eq_false hd
          have HBV := Lib.hid (HB.out.trans (by rw [if_neg (by omega)]))
          clear hd hc
          go_wp2
          go_roundw
          case rel => exact ⟨j + 1, by omega, by go_num, by rw [HFV.out, HBV.out]; simp only [Value.int.injEq, true_and]; omega, hu⟩
          case measure => first | (simp [intOf]; done) | (simp [intOf]; omega)
      · skip
        have d1 : decide ((j : Int) < x) = false := decide_eq_false (by omega)
        have d3 : ((j : Int) == x) = false := by rw [beq_eq_false_iff_ne]; omega
        have HFV := Lib.hid (HF.out.trans (by rw [if_neg (by omega)]))
        by_cases hd : (j : Int) + r < x
        · have d2 : decide ((j : Int) + r < x) = true := decide_eq_true hd
          have HBV := Lib.hid (HB.out.trans (by rw [if_pos (by omega)]))
          clear hd hc
          go_wp2
          go_roundw
          case rel => exact ⟨j + 1, by omega, by go_num, by rw [HFV.out, HBV.out]; simp only [Value.int.injEq, true_and]; omega, hu⟩
          case measure => first | (simp [intOf]; done) | (simp [intOf]; omega)
        · have d2 : decide ((j : Int) + r < x) = false := decide_eq_false hd
          have HBV := Lib.hid (HB.out.trans (by rw [if_neg (by omega)]))
          clear hd hc
          go_wp2
          go_roundw
          case rel => exact ⟨j + 1, by omega, by go_num, by rw [HFV.out, HBV.out]; simp only [Value.int.injEq, true_and]; omega, hu⟩
          case measure => first | (simp [intOf]; done) | (simp [intOf]; omega)
    · obtain rfl : j = p.fr.length := by omega
      have HRES := Lib.hid (show (preL p.fr (min p.fr.length x.toNat) : Int) + preL p.bk (min p.fr.length (x - r).toNat) = befM p at_ (at_ - r) by
        rw [preL_top, ← HP.out.n2, preL_top, HX.out]
        rfl)
      go_wp2
      go_ret
      exact ⟨ret_int HRES.out, U2.out⟩
theorem Before_front (w : World) (M H L : Nat → Prop) (bm : Nat) (p : MacM) (hp : FewM p) (r : Int) (hr : -10 ≤ r ∧ r ≤ 10) (A0 A1 : Option Addr) (c0 c1 : Nat) (q0 : w.cell? ⟨bm, 0, none⟩ = some (.int .i64 p.wd)) (q1 : w.cell? ⟨bm, 1, none⟩ = some (.int .i64 r)) (q2 : w.cell? ⟨bm, 2, none⟩ = some (.slice A0 p.fr.length c0)) (q3 : w.cell? ⟨bm, 3, none⟩ = some (.slice A1 p.bk.length c1)) (h0 : IntSSV w M H L (.slice A0 p.fr.length c0) p.fr) (h1 : IntSSV w M H L (.slice A1 p.bk.length c1) p.bk) (at_ : Int) (hat : 0 ≤ at_ ∧ at_ < p.fr.length) :
    Calls Try.prog 96 #[.pointer (some ⟨bm, 0, none⟩), .agg #[.int .i64 1, .int .i64 at_]] w fun e w' => e = .returned (.int .i64 (befM p at_ (at_ - r))) ∧ Up w w' :=
  Before_fr w M H L bm p hp r hr A0 A1 c0 c1 q0 q1 q2 q3 h0 h1 1 rfl at_ hat
theorem Before_back (w : World) (M H L : Nat → Prop) (bm : Nat) (p : MacM) (hp : FewM p) (r : Int) (hr : -10 ≤ r ∧ r ≤ 10) (A0 A1 : Option Addr) (c0 c1 : Nat) (q0 : w.cell? ⟨bm, 0, none⟩ = some (.int .i64 p.wd)) (q1 : w.cell? ⟨bm, 1, none⟩ = some (.int .i64 r)) (q2 : w.cell? ⟨bm, 2, none⟩ = some (.slice A0 p.fr.length c0)) (q3 : w.cell? ⟨bm, 3, none⟩ = some (.slice A1 p.bk.length c1)) (h0 : IntSSV w M H L (.slice A0 p.fr.length c0) p.fr) (h1 : IntSSV w M H L (.slice A1 p.bk.length c1) p.bk) (at_ : Int) (hat : 0 ≤ at_ ∧ at_ < p.fr.length) :
    Calls Try.prog 96 #[.pointer (some ⟨bm, 0, none⟩), .agg #[.int .i64 2, .int .i64 at_]] w fun e w' => e = .returned (.int .i64 (befM p (at_ + r + 1) at_)) ∧ Up w w' := by
  have H0 := Lib.hid h0
  have H1 := Lib.hid h1
  have Q0 := Lib.hid q0
  have Q1 := Lib.hid q1
  have Q2 := Lib.hid q2
  have Q3 := Lib.hid q3
  have HP := Lib.hid hp
  have hn := hp.n1
  have HR := Lib.hid hr
  have HAT := Lib.hid hat
  clear h0 h1
  have b0 := (show (w.alloc (.cells #[.int .i64 2, .int .i64 at_] 74)).cell? ⟨w.heap.size, 0, none⟩ = some (.int .i64 2) from cell_new _ _ _ _)
  have b1 := (show (w.alloc (.cells #[.int .i64 2, .int .i64 at_] 74)).cell? ⟨w.heap.size, 1, none⟩ = some (.int .i64 at_) from cell_new _ _ _ _)
  have B0 := Lib.hid b0
  have q1' := Chg.cell ((Chg.refl Nowhere w).alloc (.cells #[.int .i64 2, .int .i64 at_] 74)) q1 id
  obtain ⟨x, hx⟩ : ∃ x, x = at_ + r := ⟨_, rfl⟩
  have HX := Lib.hid hx
  have HPL : ∀ u : UpOf (w.alloc (.cells #[.int .i64 2, .int .i64 at_] 74)), Calls Try.prog 93 #[.agg #[.int .i64 2, .int .i64 at_], .int .i64 r] u.wd fun e w'' => e = .returned (.int .i64 x) ∧ ∃ u' : UpOf (w.alloc (.cells #[.int .i64 2, .int .i64 at_] 74)), w'' = u'.wd := fun u => calls_up (sPlace_back u.wd at_ r x hx (by omega) hr)
  clear hx
  clear q0 q2 q3
  go_enter Try.func96, Try.ntmps96
  go_wp2
  have g0 := up_cell b0
  have g1 := up_cell b1
  have g2 := up_cell q1'
  refine wp_region_up (by kernel_rfl) (by kernel_rfl) ?_
  repeat (go_big_quiet_step ((first | (go_at_call 93; exact HPL _))))
  refine wpQuiet_nil ?_
  rintro w1 ⟨u0, hu0⟩
  have gu := hu0 ▸ u0.up
  clear hu0 u0 g0 g1 g2 HPL b0 b1 q1' q1
  have UB := Lib.hid (show Up (w.alloc (.cells #[.int .i64 2, .int .i64 at_] 74)) w1 from Chg.trans (by repeat (first | exact Chg.refl _ _ | apply Chg.drew | apply Chg.drewN | refine Chg.alloc ?_ _)) gu)
  have U1 := Lib.hid (Chg.trans ((Chg.refl Nowhere w).alloc (.cells #[.int .i64 2, .int .i64 at_] 74)) UB.out)
  clear gu
  go_wp2
  go_loopw [6, 7] (fun s i wr => ∃ j : Nat, j ≤ p.fr.length ∧ i = .int .i64 j ∧ s = .int .i64 ((preL p.fr (min j (x + 1).toNat) : Int) + preL p.bk (min j (x - r).toNat)) ∧ Hid (Up w1 wr)) (fun _ i _ => p.fr.length - (intOf i).toNat)
  case atStart => exact ⟨0, by omega, rfl, by simp [preL_zero], Chg.refl _ _⟩
  case round =>
    obtain ⟨j, hj, rfl, rfl, hu⟩ := hrel
    have U2 := Lib.hid (Chg.trans U1.out hu.out)
    have q0 := Chg.cell U2.out Q0.out id
    have q1 := Chg.cell U2.out Q1.out id
    have q2 := Chg.cell U2.out Q2.out id
    have q3 := Chg.cell U2.out Q3.out id
    have b0 := Chg.cell (Chg.trans UB.out hu.out) B0.out id
    rw [HP.out.wd] at q0
    by_cases hlt : j < p.fr.length
    · have hjb : j < p.bk.length := by have := HP.out.n2; omega
      obtain ⟨b3, o3, c3', vs3, he3, -, -, -, hE3, hc3⟩ := (H1.out.up U2.out).at_ hjb
      obtain ⟨rfl, rfl⟩ : A1 = some ⟨b3, o3, none⟩ ∧ c1 = c3' := by simpa using he3
      obtain ⟨A7, k7, rfl, -, -, -⟩ := hE3.val
      have e1 := (hc3 0 _ rfl).1
      simp only [Nat.mul_one, Nat.add_zero] at e1
      clear hc3 he3 hE3
      obtain ⟨b4, o4, c4', vs4, he4, -, -, -, hE4, hc4⟩ := (H0.out.up U2.out).at_ hlt
      obtain ⟨rfl, rfl⟩ : A0 = some ⟨b4, o4, none⟩ ∧ c0 = c4' := by simpa using he4
      obtain ⟨A8, k8, rfl, -, -, -⟩ := hE4.val
      have e2 := (hc4 0 _ rfl).1
      simp only [Nat.mul_one, Nat.add_zero] at e2
      clear hc4 he4 hE4
      have HF := Lib.hid (preL_min (X := (x + 1).toNat) hlt)
      have HB := Lib.hid (preL_min (X := (x - r).toNat) hjb)
      have hlf := preL_le HP.out.f (min j (x + 1).toNat)
      have hlb := preL_le HP.out.b (min j (x - r).toNat)
      have hbb := HP.out.n2
      obtain ⟨sf, hsf⟩ : ∃ s, s = preL p.fr (min j (x + 1).toNat) := ⟨_, rfl⟩
      obtain ⟨sb, hsb⟩ : ∃ s, s = preL p.bk (min j (x - r).toNat) := ⟨_, rfl⟩
      rw [← hsf] at HF hlf ⊢
      rw [← hsb] at HB hlb ⊢
      have HSF := Lib.hid hsf
      have HSB := Lib.hid hsb
      clear hsf hsb
      have f4 := HP.out.f j hlt
      have b4' := HP.out.b j hjb
      have hr2 := HR.out
      have hat2 := HAT.out
      have hx2 := HX.out
      have HX2 : Hid (-10 ≤ x ∧ x ≤ 40) := Lib.hid (by omega)
      clear hx2
      have hxb := HX2.out
      rcases Int.lt_trichotomy (j : Int) x with hc | hc | hc
      · skip
        have d1 : decide ((j : Int) < x) = true := decide_eq_true hc
        have HFV := Lib.hid (HF.out.trans (by rw [if_pos (by omega)]))
        by_cases hd : (j : Int) + r < x
        · have d2 : decide ((j : Int) + r < x) = true := decide_eq_true hd
          have HBV := Lib.hid (HB.out.trans (by rw [if_pos (by omega)]))
          clear hd hc
          go_wp2
          go_roundw
          case rel => exact ⟨j + 1, by omega, by go_num, by rw [HFV.out, HBV.out]; simp only [Value.int.injEq, true_and]; omega, hu⟩
          case measure => first | (simp [intOf]; done) | (simp [intOf]; omega)
        · have d2 : decide ((j : Int) + r < x) = false := decide_eq_false hd
          have HBV := Lib.hid (HB.out.trans (by rw [if_neg (by omega)]))
          clear hd hc
          go_wp2
          go_roundw
          case rel => exact ⟨j + 1, by omega, by go_num, by rw [HFV.out, HBV.out]; simp only [Value.int.injEq, true_and]; omega, hu⟩
          case measure => first | (simp [intOf]; done) | (simp [intOf]; omega)
      · skip
        have d1 : decide ((j : Int) < x) = false := decide_eq_false (by omega)
        have d3 : ((j : Int) == x) = true := by simp [hc]
        have HFV := Lib.hid (HF.out.trans (by rw [if_pos (by omega)]))
        by_cases hd : (j : Int) + r < x
        · have d2 : decide ((j : Int) + r < x) = true := decide_eq_true hd
          have HBV := Lib.hid (HB.out.trans (by rw [if_pos (by omega)]))
          clear hd hc
          go_wp2
          go_roundw
          case rel => exact ⟨j + 1, by omega, by go_num, by rw [HFV.out, HBV.out]; simp only [Value.int.injEq, true_and]; omega, hu⟩
          case measure => first | (simp [intOf]; done) | (simp [intOf]; omega)
        · have d2 : decide ((j : Int) + r < x) = false := decide_eq_false hd
          have HBV := Lib.hid (HB.out.trans (by rw [if_neg (by omega)]))
          clear hd hc
          go_wp2
          go_roundw
          case rel => exact ⟨j + 1, by omega, by go_num, by rw [HFV.out, HBV.out]; simp only [Value.int.injEq, true_and]; omega, hu⟩
          case measure => first | (simp [intOf]; done) | (simp [intOf]; omega)
      · skip
        have d1 : decide ((j : Int) < x) = false := decide_eq_false (by omega)
        have d3 : ((j : Int) == x) = false := by rw [beq_eq_false_iff_ne]; omega
        have HFV := Lib.hid (HF.out.trans (by rw [if_neg (by omega)]))
        by_cases hd : (j : Int) + r < x
        · have d2 : decide ((j : Int) + r < x) = true := decide_eq_true hd
          have HBV := Lib.hid (HB.out.trans (by rw [if_pos (by omega)]))
          clear hd hc
          go_wp2
          go_roundw
          case rel => exact ⟨j + 1, by omega, by go_num, by rw [HFV.out, HBV.out]; simp only [Value.int.injEq, true_and]; omega, hu⟩
          case measure => first | (simp [intOf]; done) | (simp [intOf]; omega)
        · have d2 : decide ((j : Int) + r < x) = false := decide_eq_false hd
          have HBV := Lib.hid (HB.out.trans (by rw [if_neg (by omega)]))
          clear hd hc
          go_wp2
          go_roundw
          case rel => exact ⟨j + 1, by omega, by go_num, by rw [HFV.out, HBV.out]; simp only [Value.int.injEq, true_and]; omega, hu⟩
          case measure => first | (simp [intOf]; done) | (simp [intOf]; omega)
    · obtain rfl : j = p.fr.length := by omega
      have HRES := Lib.hid (show (preL p.fr (min p.fr.length (x + 1).toNat) : Int) + preL p.bk (min p.fr.length (x - r).toNat) = befM p (at_ + r + 1) at_ by
        rw [preL_top, ← HP.out.n2, preL_top, HX.out]
        rw [show at_ + r - r = at_ by omega]; rfl)
      go_wp2
      go_ret
      exact ⟨ret_int HRES.out, U2.out⟩
end Go.Proofs.Ytplabnjdhkmmkaa
end
section
set_option maxRecDepth 100000
set_option linter.unusedSimpArgs false
set_option linter.unusedVariables false
namespace Go.Proofs.Ytplabnjdhkmmkaa
open Go.ChangeShapes Go.WideShapes Go.ChangeAt Go.RowKit
theorem one_cell {cs : List Value} {i : Nat} (h : i < cs.length) : (cs.drop (i * 1)).take 1 = [cs[i]] := by
  rw [Nat.mul_one, List.drop_eq_getElem_cons h]
  rfl
theorem Raw.own {w : World} {base k n : Nat} {e : TypeId} {v : Value} {cs : List Value} (h : w.ownsRow base e k v n cs) : Raw w (fun b => v.ownBlock = some b) k v n cs := by
  obtain ⟨h0, A, c, hv, h1, h2, h3, h4⟩ := Raw.of_own h
  refine ⟨h0, A, c, hv, h1, h2, fun hp => ?_, h4⟩
  obtain ⟨b, o, ha, hs, hb, hc⟩ := h3 hp
  exact ⟨b, o, ha, by rw [hv, ha]; rfl, hb, hc⟩
/-- a bed whose needles are rows of one's own -/
theorem bed_ssv {w : World} {Q : Nat → Prop} {n : Nat} {e : TypeId} {v : Value} {vs : List Value} {xs : List (List Int)} (h : w.ownsRow 0 e 1 v n vs) (hn : n = vs.length) (hl : vs.length = xs.length) (hi : ∀ i (h : i < vs.length), OwnI w 0 vs[i] (xs.getD i [])) (hq : ∀ b, v.ownBlock = some b → Q b) (hq2 : ∀ u ∈ vs, ∀ b, u.ownBlock = some b → Q b) : IntSSV w Q Q Q v xs := by
  subst hn
  refine ⟨vs, (by rw [← hl]; exact (Raw.own h).mono (fun b _ hb => hq b hb)), fun i hi2 => ?_⟩
  have hv := hi i (by omega)
  rw [one_cell (show i < vs.length by omega)]
  have e1 : xs.getD i [] = xs[i] := by rw [List.getD_eq_getElem?_getD, List.getElem?_eq_getElem hi2]; rfl
  rw [e1] at hv
  obtain ⟨A, c, e2, h3, h4, -⟩ := hv.ints.shape
  have h5 := (hv.intsOwn.mono (T := Q) (fun b _ hb => hq2 _ (List.getElem_mem _) b hb))
  exact ⟨A, c, by rw [← e2], e2 ▸ h5, h3, h4⟩
section
variable {w w' : World} {S T : Nat → Prop} {K p : Nat} {m : MachM} {F B C L D : Value} {fs bs : List Value}
/-- the machine's beds, as racking reads them -/
theorem MachX.beds (h : MachX w S K p m F B C L D fs bs) : ∃ A0 c0 A1 c1, F = .slice A0 m.fr.length c0 ∧ B = .slice A1 m.bk.length c1 ∧ IntSSV w (fun b => b ≠ p ∧ S b ∧ b < w.heap.size) (fun b => b ≠ p ∧ S b ∧ b < w.heap.size) (fun b => b ≠ p ∧ S b ∧ b < w.heap.size) (.slice A0 m.fr.length c0) m.fr ∧ IntSSV w (fun b => b ≠ p ∧ S b ∧ b < w.heap.size) (fun b => b ≠ p ∧ S b ∧ b < w.heap.size) (fun b => b ≠ p ∧ S b ∧ b < w.heap.size) (.slice A1 m.bk.length c1) m.bk := by
  have hq : ∀ v ∈ F :: B :: C :: L :: D :: (fs ++ bs), ∀ b, v.ownBlock = some b → b ≠ p ∧ S b ∧ b < w.heap.size := fun v hv b hb => ⟨h.off_p v hv b hb, h.own v hv b hb, h.all_lt v (List.mem_cons_of_mem _ hv) b hb⟩
  have h1 := bed_ssv h.f rfl h.fl h.fi (hq F (by simp)) (fun u hu => hq u (by simp [hu]))
  have h2 := bed_ssv h.b rfl h.bl h.bi (hq B (by simp)) (fun u hu => hq u (by simp [hu]))
  obtain ⟨A0, c0, rfl, -⟩ := h1.shape
  obtain ⟨A1, c1, rfl, -⟩ := h2.shape
  exact ⟨A0, c0, A1, c1, rfl, rfl, h1, h2⟩
/-- the loops ahead of a needle -/
theorem l10Before_any (w : World) (h : MachX w S K p m F B C L D fs bs) (hi : MInv m) {b a : Int} (hn : okN m b a) :
    Calls Try.prog 96 #[.pointer (some ⟨p, 0, none⟩), .agg #[.int .i64 b, .int .i64 a]] w fun e w' => e = .returned (.int .i64 (if b = 2 then befM (macOf m) (a + m.rack + 1) a else befM (macOf m) a (a - m.rack))) ∧ Up w w' := by
  obtain ⟨A0, c0, A1, c1, rfl, rfl, h1, h2⟩ := h.beds
  have hr := hi.rack
  have hfl := hi.fl
  obtain ⟨rfl | rfl, ha⟩ := hn
  · exact Before_fr w _ _ _ p (macOf m) hi.few m.rack (by omega) A0 A1 c0 c1 h.c0.1 h.c1.1 h.c2.1 h.c3.1 h1 h2 1 rfl a (by show 0 ≤ a ∧ a < (m.fr.length : Int); omega)
  · exact Before_back w _ _ _ p (macOf m) hi.few m.rack (by omega) A0 A1 c0 c1 h.c0.1 h.c1.1 h.c2.1 h.c3.1 h1 h2 a (by show 0 ≤ a ∧ a < (m.fr.length : Int); omega)
theorem l10Before_zero (w : World) (h : MachX w S K p m F B C L D fs bs) (hi : MInv m) :
    Calls Try.prog 96 #[.pointer (some ⟨p, 0, none⟩), .agg #[.int .i64 0, .int .i64 0]] w fun e w' => e = .returned (.int .i64 (befM (macOf m) 0 (0 - m.rack))) ∧ Up w w' := by
  obtain ⟨A0, c0, A1, c1, rfl, rfl, h1, h2⟩ := h.beds
  have hr := hi.rack
  have hfl := hi.fl
  have hw := hi.wd
  exact Before_fr w _ _ _ p (macOf m) hi.few m.rack (by omega) A0 A1 c0 c1 h.c0.1 h.c1.1 h.c2.1 h.c3.1 h1 h2 0 rfl 0 (by show 0 ≤ 0 ∧ 0 < (m.fr.length : Int); omega)
theorem befM_bd {p : MacM} (hp : FewM p) (i k : Int) : 0 ≤ befM p i k ∧ befM p i k ≤ 100000 := by
  have h1 := preL_le hp.f i.toNat
  have h2 := preL_le hp.b k.toNat
  have h3 := hp.n1
  have h4 := hp.n2
  unfold befM
  omega
/-- the loops on a needle -/
theorem l07On_len (w : World) (h : MachX w S K p m F B C L D fs bs) (hi : MInv m) {b a : Int} (hn : okN m b a) :
    Calls Try.prog 68 #[.pointer (some ⟨p, 0, none⟩), .agg #[.int .i64 b, .int .i64 a]] w fun e w' => (∃ A c, e = .returned (.slice A (onM m b a).length c)) ∧ Up w w' := by
  obtain ⟨g, v, hH, -⟩ := h.hold hi hn
  obtain ⟨A, c, rfl, -⟩ := hH.own.ints.shape
  exact (l07On_any w p b a g A c _ hH).mono fun e w' ⟨k1, k2⟩ => ⟨⟨A, c, k1⟩, k2⟩
theorem l07Bed_0 (w : World) (p : Nat) (A : Option Addr) (n c : Nat) (h : w.cell? ⟨p, 3, none⟩ = some (.slice A n c)) :
    Calls Try.prog 94 #[.pointer (some ⟨p, 0, none⟩), .int .i64 0] w fun e w' => e = .returned (.slice A n c) ∧ w = w' := by
  go_enter Try.func94, Try.ntmps94
  go_wp2
  go_ret
  exact ⟨rfl, rfl⟩
theorem l07On_zero (w : World) (h : MachX w S K p m F B C L D fs bs) (hi : MInv m) :
    Calls Try.prog 68 #[.pointer (some ⟨p, 0, none⟩), .agg #[.int .i64 0, .int .i64 0]] w fun e w' => (∃ A c, e = .returned (.slice A (onM m 2 0).length c)) ∧ Up w w' := by
  have hw := hi.wd
  obtain ⟨g, v, hH, -⟩ := h.hold hi (b := 2) (a := 0) ⟨.inr rfl, by omega, by omega⟩
  obtain ⟨A, c, rfl, -⟩ := hH.own.ints.shape
  have hl4 := (hi.on_ 2 0).1
  obtain ⟨-, hdr, ⟨hcell, -⟩, -⟩ := hH
  obtain ⟨n, c2, h1, h2, h3, ⟨h4, -⟩⟩ : ∃ n c : Nat, (0 : Int) < (n : Int) ∧ n ≤ c ∧ c ≤ 9223372036854775807 ∧ CellU w ⟨p, 3, none⟩ (.slice (some ⟨g, 0, none⟩) n c) := by
    rcases hdr with ⟨e, r⟩ | ⟨e, r⟩
    · exact r
    · cases e
  have hG := Lib.hid ((Chg.refl Nowhere w).alloc (.cells #[.int .i64 0, .int .i64 0] 74))
  have e2 : (w.alloc (.cells #[.int .i64 0, .int .i64 0] 74)).cell? ⟨w.heap.size, 1, none⟩ = some (.int .i64 0) := cell_new _ _ _ _
  have e0 : (w.alloc (.cells #[.int .i64 0, .int .i64 0] 74)).cell? ⟨w.heap.size, 0, none⟩ = some (.int .i64 0) := cell_new _ _ _ _
  have e3 := Chg.cell hG.out hcell id
  rw [show ((0 : Int)).toNat = 0 from rfl] at e3
  have e1 := Chg.cell hG.out h4 id
  have hpl := World.block_lt_of_cell? _ _ h4
  have q0 := up_cell e0
  have q1 := up_cell e1
  have q2 := up_cell e2
  have q3 := up_cell e3
  have HL4 := Lib.hid hl4
  have HG4 := Lib.hid h4
  clear h4 hcell hl4 hdr
  go_enter Try.func68, Try.ntmps68
  go_wp2
  clear e0 e1 e2 e3
  refine wp_region_up (by kernel_rfl) (by kernel_rfl) ?_
  repeat (go_big_quiet_step (exact calls_up_same (l07Bed_0 _ _ _ _ _ (q1 _))))
  refine wpQuiet_nil ?_
  rintro _ ⟨u, rfl⟩
  go_wp2
  go_ret
  exact ⟨⟨A, c, by simp⟩, Chg.trans hG.out u.up⟩
end
end Go.Proofs.Ytplabnjdhkmmkaa
end
section
set_option linter.unusedSimpArgs false
set_option linter.unusedVariables false
namespace Go.Proofs.Ytplabnjdhkmmkaa
open Go.ChangeShapes Go.WideShapes Go.ChangeAt Go.RowKit
structure NdM where
  bd : Int
  at_ : Int
def NdM.cells (x : NdM) : List Value := [.int .i64 x.bd, .int .i64 x.at_]
def NdM.ok (x : NdM) : Prop := I64 x.bd ∧ I64 x.at_
theorem NdM.cells_length (x : NdM) : x.cells.length = 2 := rfl
abbrev NdM.val (x : NdM) : Value := .agg #[.int .i64 x.bd, .int .i64 x.at_]
/-- a slice that reads as the list xs -/
def Nds (w : World) (S : Nat → Prop) (v : Value) (xs : List NdM) : Prop := Raw w S 2 v xs.length (xs.flatMap NdM.cells) ∧ ∀ x ∈ xs, x.ok
section
variable {S T : Nat → Prop} {w w' : World} {v : Value} {xs : List NdM}
theorem Nds.keep (h : Nds w S v xs) (g : Chg T w w') (hd : ∀ b, b < w.heap.size → S b → ¬ T b) : Nds w' S v xs := ⟨h.1.keep g hd, h.2⟩
theorem Nds.up (h : Nds w S v xs) (g : Up w w') : Nds w' S v xs := ⟨h.1.up g, h.2⟩
theorem Nds.mono (h : Nds w S v xs) (hs : ∀ b, b < w.heap.size → S b → T b) : Nds w T v xs := ⟨h.1.mono hs, h.2⟩
theorem Nds.shape (h : Nds w S v xs) : ∃ A c, v = .slice A xs.length c ∧ xs.length ≤ c ∧ c ≤ 9223372036854775807 ∧ (A = none → c = 0) := h.1.shape
theorem Nds.nil (w : World) (S : Nat → Prop) (c : Nat) (A : Option Addr) (hc : c ≤ 9223372036854775807) (hA : A = none → c = 0 := by simp) : Nds w S (.slice A 0 c) [] := ⟨Raw.nil w S 2 c A hc hA, by simp⟩
theorem Nds.at_ (h : Nds w S v xs) {i : Nat} (hi : i < xs.length) : ∃ b o c, v = .slice (some ⟨b, o, none⟩) xs.length c ∧ S b ∧ b < w.heap.size ∧
    ∀ j u, (xs[i].cells)[j]? = some u → w.cell? ⟨b, o + i * 2 + j, none⟩ = some u ∧ w.frozen? ⟨b, o + i * 2 + j, none⟩ = false := Raw.at_ NdM.cells_length h.1 hi
end
/-- a slice of the call's own, from block base on -/
def OwnNds (w : World) (base : Nat) (v : Value) (xs : List NdM) : Prop :=
  w.ownsRow base 74 2 v xs.length (xs.flatMap NdM.cells) ∧ ∀ x ∈ xs, x.ok
theorem OwnNds.nil (w : World) (base : Nat) : OwnNds w base (.slice none 0 0) [] := ⟨World.ownsRow_nil _ _ _ _, by simp⟩
theorem OwnNds.made (w : World) (base : Nat) (hb : base ≤ w.heap.size) : OwnNds (w.alloc (.cells #[] 74)) base (.slice (some ⟨w.heap.size, 0, none⟩) 0 0) [] :=
  ⟨World.ownsRow_made w _ 0 hb (by unfold Go.maxLen; omega) (by simp), by simp⟩
theorem OwnNds.alloc {w : World} {base : Nat} {v : Value} {xs : List NdM} (h : OwnNds w base v xs) (o : Obj) : OwnNds (w.alloc o) base v xs := ⟨h.1.alloc o, h.2⟩
theorem OwnNds.kept {w w' : World} {base : Nat} {v : Value} {xs : List NdM} {S : Nat → Prop} (h : OwnNds w base v xs) (k : Chg S w w') (hS : ∀ g, v.ownBlock = some g → ¬ S g) : OwnNds w' base v xs := by
  refine ⟨⟨h.1.1, ?_⟩, h.2⟩
  rcases h.1.2 with h2 | ⟨g, cap, cur, rfl, hg, hh, r⟩
  · exact Or.inl h2
  · exact Or.inr ⟨g, cap, cur, rfl, hg, (k.block g (Array.getElem?_eq_some_iff.1 hh).1 (hS g rfl)).trans hh, r⟩
theorem OwnNds.up {w w' : World} {base : Nat} {v : Value} {xs : List NdM} (h : OwnNds w base v xs) (k : Up w w') : OwnNds w' base v xs := h.kept k fun _ _ h => h
theorem OwnNds.rd {w : World} {base : Nat} {v : Value} {xs : List NdM} (h : OwnNds w base v xs) : Nds w (New base w.heap.size) v xs := ⟨Raw.of_own h.1, h.2⟩
theorem OwnNds.lt {w : World} {base : Nat} {v : Value} {xs : List NdM} (h : OwnNds w base v xs) {g : Nat} (hg : v.ownBlock = some g) : base ≤ g ∧ g < w.heap.size := h.1.lt g hg
end Go.Proofs.Ytplabnjdhkmmkaa
end
section
set_option linter.unusedSimpArgs false
set_option linter.unusedVariables false
namespace Go.Proofs.Ytplabnjdhkmmkaa
open Go.ChangeShapes Go.WideShapes Go.ChangeAt Go.RowKit
def gF (N : Nat) (x : Int) : List NdM := if 0 ≤ x ∧ x < N then [⟨1, x⟩] else []
def gB (N : Nat) (k : Int) : List NdM := if 0 ≤ k ∧ k < N then [⟨2, k⟩] else []
def gD (N : Nat) (r x : Int) : List NdM := gB N (x - r) ++ gF N x
/-- how many loops lie on a needle -/
def lenN (p : MacM) (y : NdM) : Nat := if y.bd = 2 then lenB p y.at_.toNat else lenF p y.at_.toNat
def sumN (p : MacM) (ys : List NdM) : Nat := (ys.map (lenN p)).sum
end Go.Proofs.Ytplabnjdhkmmkaa
end
section
set_option maxRecDepth 100000
set_option maxHeartbeats 4000000
set_option linter.unusedSimpArgs false
set_option linter.unusedVariables false
set_option maxRecDepth 100000
namespace Go.Proofs.Ytplabnjdhkmmkaa
open Go.ChangeShapes Go.WideShapes Go.ChangeAt Go.RowKit
/-- 'out = append(out, list...)': what has turned, and where the row lies now -/
theorem wp_appEvs2 {w : World} {ops : Array Oper} {rest : List Oper} {o : Oper} {a : Act} {Q : Exit → Act → World → Prop} (hgd : o.guard = none) (s x : Operand)
    (ho : o.op = .call { callee := .builtin .append, args := #[s, x], argTypes := #[40, 40] })
    (base : Nat) (v : Value) (xs : List EvM) (hs : a.eval s = v) (hown : OwnEvs w base v xs)
    (S : Nat → Prop) (u : Value) (ys : List EvM) (hx : a.eval x = u) (hsrc : Evs w S u ys) (hlen : xs.length + ys.length ≤ 1099511627776) (hbase : base ≤ w.heap.size)
    (h : ∀ v' w', OwnEvs w' base v' (xs ++ ys) → Chg (fun b => v.ownBlock = some b) w w' → (∀ b, v'.ownBlock = some b → v.ownBlock = some b ∨ w.heap.size ≤ b) → Chg (fun k => base ≤ k) w w' → wpList Try.prog ops Q rest (a.put o.dst v') w') : wpList Try.prog ops Q (o :: rest) a w := by
  obtain ⟨i0, hi, hz0, hz1, hz2⟩ := info_parts infoEvs
  obtain ⟨⟨hl, A, c, rfl, hlc, hcm, hr, hnn⟩, hok⟩ := hsrc
  have hok' : ∀ y ∈ xs ++ ys, y.ok := fun y hy => (List.mem_append.1 hy).elim (hown.2 y) (hok y)
  cases A with
  | none =>
    have hy : ys = [] := by
      rcases Nat.eq_zero_or_pos ys.length with h0 | h0
      · exact List.eq_nil_of_length_eq_zero h0
      · obtain ⟨b, oo, h1, _⟩ := hr h0
        cases h1
    subst hy
    obtain rfl := hnn rfl
    refine wpList_append_own_none hgd s x 40 ho base 92 i0 6 Try.underlying40 hi v xs.length _ hs hown.1 hx ?_
    exact h v w (by simpa using hown) (Chg.refl _ _) (fun b hb => .inl hb) (Chg.refl _ _)
  | some ad =>
    have hnews : ∀ j q, (ys.flatMap EvM.cells)[j]? = some q → w.cell? (ad.add j) = some q := by
      intro j q hq
      obtain ⟨hj, he⟩ := List.getElem?_eq_some_iff.1 hq
      have hp : 0 < ys.length := by
        rcases Nat.eq_zero_or_pos ys.length with h0 | h0
        · rw [List.eq_nil_of_length_eq_zero h0] at hj; simp at hj
        · exact h0
      obtain ⟨b, oo, h1, _, _, hc⟩ := hr hp
      injection h1 with h1
      subst h1
      have := (hc j hj).1
      rw [he] at this
      rw [← this]
      unfold Addr.add
      by_cases h0 : j = 0 <;> simp [h0]
    refine wpList_append_own2 (P := Try.prog) hgd s x 40 ho base 92 i0 _ 6 48 Try.underlying40 hi hz0 hz1 hz2 rfl (by decide) v xs.length _ hs hown.1 ad ys.length c (ys.flatMap EvM.cells) hx hl hnews ?_ ?_ ?_ hbase ?_
    · intro q hq
      obtain ⟨y, _, hy⟩ := List.mem_flatMap.1 hq
      exact cells_oneEvs y q hy
    · unfold Go.maxLen; omega
    · omega
    · intro v' w' h2 h3 h4
      exact h v' w' ⟨by simpa using h2, hok'⟩ (Chg.of_grown h3) h4 ((Chg.refl _ _).grown h3 fun k hk => .inl (hown.1.lt k hk).1)
theorem l10Cross_any (w : World) (p s : Int) (a c : Nat) (hp : 0 ≤ p ∧ p ≤ 1000) (hs : s = 1 ∨ s = -1) (ha : a ≤ 4) (hc : c ≤ 4) :
    Calls Try.prog 120 #[.int .i64 p, .int .i64 a, .int .i64 c, .int .i64 s] w fun e w' => ∃ v, e = .returned v ∧ Evs w' (New w.heap.size w'.heap.size) v (crossE p s a c) ∧ Up w w' := by
  have HS : Hid (-1 ≤ s ∧ s ≤ 1) := Lib.hid (by omega)
  clear hs
  go_enter Try.func120, Try.ntmps120
  go_wp2
  go_loopw [9, 10, 11] (fun v i _ wr => ∃ t : Nat, t ≤ c ∧ i = .int .i64 t ∧ Hid (OwnEvs wr w.heap.size v ((swapTo p 1 a t).map (evX s))) ∧ Hid (Up w wr)) (fun _ i _ _ => c - (intOf i).toNat)
  case atStart => exact ⟨0, by omega, rfl, OwnEvs.made w _ (Nat.le_refl _), (Chg.refl _ _).alloc _⟩
  case round =>
    obtain ⟨t, ht, rfl, ho, hg⟩ := hrel
    by_cases hlt : t < c
    · go_wp2
      go_loopw [9, 11] (fun v k wr => ∃ m : Nat, m ≤ a ∧ k = .int .i64 ((a : Int) - 1 - m) ∧ Hid (OwnEvs wr w.heap.size v ((swapTo p 1 a t ++ swapRow p 1 a t m).map (evX s))) ∧ Hid (Up w wr)) (fun _ k _ => (intOf k + 1).toNat)
      case atStart => exact ⟨0, by omega, by simp, by simpa [swapRow, Hid] using ho, hg⟩
      case round =>
        obtain ⟨m, hm, rfl, ho2, hg2⟩ := hrel
        by_cases hlt2 : m < a
        · have hsz := hg2.out.size
          have hs2 := HS.out
          have HY := Lib.hid (show (evX s (1 * (p + t + ((a : Int) - 1 - m) + 1))).ok by unfold EvM.ok evX I64; simp only []; omega)
          have HYE := Lib.hid (show (evX s (1 * (p + t + ((a : Int) - 1 - m) + 1))) = ⟨1, p + t + ((a : Int) - 1 - m), s, 0, 0, 0⟩ by unfold evX; congr 1; omega)
          have HL := Lib.hid (show ((swapTo p 1 a t ++ swapRow p 1 a t m).map (evX s)).length ≤ 1099511627775 by
            rw [List.length_map, List.length_append, swapTo_length, swapRow_length]
            have : t * a ≤ 4 * 4 := Nat.mul_le_mul (by omega) ha
            omega)
          have HT := Lib.hid (show (swapTo p 1 a t ++ swapRow p 1 a t (m + 1)).map (evX s) = (swapTo p 1 a t ++ swapRow p 1 a t m).map (evX s) ++ [evX s (1 * (p + t + ((a : Int) - 1 - m) + 1))] by rw [swapRow_succ, ← List.append_assoc, List.map_append]; rfl)
          have hge : (0 : Int) ≤ (a : Int) - 1 - m := by omega
          clear hs2
          go_wp2_with (at_builtin; refine wp_append1Evs rfl _ _ rfl w.heap.size _ ((swapTo p 1 a t ++ swapRow p 1 a t m).map (evX s)) rfl (ho2.out.alloc _) _ ⟨1, p + t + ((a : Int) - 1 - m), s, 0, 0, 0⟩ rfl (heap_alloc_new _ _) (HYE.out ▸ HY.out) HL.out (by simp; omega) ?_; intro v' w' h1 h2 h3; have HO := Lib.hid h1; have HG := Lib.hid h3; clear h1 h2 h3)
          go_roundw
          case rel => exact ⟨m + 1, by omega, by simp only [Value.int.injEq, true_and]; omega, by show Hid _; rw [HT.out, HYE.out]; exact HO, Chg.new (hg2.out.alloc _) HG.out (fun i hi => by omega)⟩
          case measure => first | (simp [intOf]; done) | (simp [intOf]; omega)
        · obtain rfl : m = a := by omega
          have hge : ¬ (0 : Int) ≤ (m : Int) - 1 - m := by omega
          go_wp2
          go_roundw
          case rel => exact ⟨t + 1, by omega, by go_num, ho2, hg2⟩
          case measure => first | (simp [intOf]; done) | (simp [intOf]; omega)
    · obtain rfl : t = c := by omega
      go_wp2
      go_ret
      exact ⟨_, rfl, ho.out.rd, hg.out⟩
end Go.Proofs.Ytplabnjdhkmmkaa
end
section
set_option maxRecDepth 100000
set_option maxHeartbeats 4000000
set_option linter.unusedSimpArgs false
set_option linter.unusedVariables false
namespace Go.Proofs.Ytplabnjdhkmmkaa
open Go.ChangeShapes Go.WideShapes Go.ChangeAt Go.RowKit
end Go.Proofs.Ytplabnjdhkmmkaa
end
