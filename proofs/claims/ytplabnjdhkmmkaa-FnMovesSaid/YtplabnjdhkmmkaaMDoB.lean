/- The reference's l10Do. No condition. -/
import Derived.Test.YtplabnjdhkmmkaaPF19
import Derived.Test.YtplabnjdhkmmkaaPF20
import Derived.Test.YtplabnjdhkmmkaaMOwn
set_option maxRecDepth 100000
set_option maxHeartbeats 1000000
set_option linter.unusedSimpArgs false
set_option linter.unusedVariables false
namespace Go.Proofs.Ytplabnjdhkmmkaa
open Go.ChangeShapes Go.WideShapes Go.ChangeAt Go.RowKit
theorem box6_at (w : World) (a b c d e f : Value) (t : Nat) (h : t < 6) : CellU (w.alloc (.cells #[a, b, c, d, e, f] 92)).drew ⟨w.heap.size, t, none⟩ ([a, b, c, d, e, f][t]) := by
  refine cellU_at (w := w) rfl ?_
  match t, h with
  | 0, _ => rfl
  | 1, _ => rfl
  | 2, _ => rfl
  | 3, _ => rfl
  | 4, _ => rfl
  | 5, _ => rfl
theorem chg_down {S : Nat → Prop} {w w2 w3 : World} (u : Up w w2) (k : Chg (fun b => S b ∧ b < w.heap.size ∨ w2.heap.size ≤ b) w2 w3) : Chg (fun b => S b ∧ b < w.heap.size) w w3 :=
  ⟨k.os.trans u.os, k.tape.trans u.tape, k.output.trans u.output, Nat.le_trans u.size k.size, fun i hi hn => (k.block i (Nat.lt_of_lt_of_le hi u.size) (fun h => by rcases h with h | h; exact hn h; have := u.size; omega)).trans (u.block i hi (fun h => h.elim))⟩
theorem l10Do_1 (w : World) (p bo oi : Nat) (d fb fa tb ta car rk : Int) (z code : Int) (n : Nat) (hz : -100000 ≤ z ∧ z ≤ 100000) (hn : n ≤ 4) (hv : I64 fb ∧ I64 car ∧ I64 d) (S : Nat → Prop) (J : World → Prop) (hO : OpC w bo oi ⟨1, d, fb, fa, tb, ta, car, rk⟩) (hb : ¬ S bo)
    (hB : ∀ W, Up w W → Calls Try.prog 96 #[.pointer (some ⟨p, 0, none⟩), .agg #[.int .i64 fb, .int .i64 fa]] W fun e w' => e = .returned (.int .i64 z) ∧ Up W w')
    (hL : ∀ W, Up w W → Calls Try.prog 68 #[.pointer (some ⟨p, 0, none⟩), .agg #[.int .i64 fb, .int .i64 fa]] W fun e w' => (∃ A c, e = .returned (.slice A n c)) ∧ Up W w')
    (hD : ∀ W, Up w W → w.heap.size < W.heap.size → Calls Try.prog 36 #[.pointer (some ⟨p, 0, none⟩), .pointer (some ⟨bo, oi, none⟩)] W fun e w' => e = .returned (.int .i64 code) ∧ (code = 0 → J w') ∧ Chg (fun b => S b ∧ b < w.heap.size ∨ W.heap.size ≤ b) W w')
    (hJ : ∀ a b, Chg (fun x => x = w.heap.size) a b → J a → J b) :
    Calls Try.prog 71 #[.pointer (some ⟨p, 0, none⟩), .pointer (some ⟨bo, oi, none⟩)] w fun e w' => (code ≠ 0 → e = .returned (.tuple #[.slice none 0 0, .int .i64 code])) ∧ (code = 0 → ∃ v, e = .returned (.tuple #[v, .int .i64 0]) ∧ Evs w' (New w.heap.size w'.heap.size) v [⟨2, z, n, fb, car, d⟩] ∧ J w') ∧ Chg (fun b => S b ∧ b < w.heap.size) w w' := by
  obtain ⟨o0, o1, o2, o3, -, -, o6, -⟩ := hO
  dsimp only at o0 o1 o2 o3 o6
  have hbl := World.block_lt_of_cell? _ _ o0
  have O0 := Lib.hid o0
  have O1 := Lib.hid o1
  have O2 := Lib.hid o2
  have O3 := Lib.hid o3
  have O6 := Lib.hid o6
  have HB := Lib.hid hB
  have HL := Lib.hid hL
  have HD := Lib.hid hD
  have HJ := Lib.hid hJ
  have HBB := Lib.hid hb
  have HV := Lib.hid hv
  have HZ := Lib.hid hz
  clear hB hL hD hJ hb hv o1 o6 hz
  go_enter Try.func71, Try.ntmps71
  go_wp2_with fail
  refine (HB.out _ (by repeat (first | exact Chg.refl _ _ | apply Chg.drew | apply Chg.drewN | refine Chg.alloc ?_ _))).mono ?_
  rintro e w1 ⟨rfl, g1⟩
  have U1 := Lib.hid (show Up w w1 from Chg.trans (by repeat (first | exact Chg.refl _ _ | apply Chg.drew | apply Chg.drewN | refine Chg.alloc ?_ _)) g1)
  have C1 : Hid (∃ OB, OB = w.heap.size) := Lib.hid ⟨_, rfl⟩
  replace o0 := Chg.cell U1.out O0.out id
  replace o2 := Chg.cell U1.out O2.out id
  replace o3 := Chg.cell U1.out O3.out id
  have hsz1 := g1.size
  have OE := Lib.hid (show OwnEvs w1 w.heap.size (.slice (some ⟨w.heap.size, 0, none⟩) 0 0) [] from OwnEvs.up (OwnEvs.made w _ (Nat.le_refl _)) g1)
  clear g1
  go_wp2_with fail
  refine (HL.out _ U1.out).mono ?_
  rintro e w2 ⟨⟨A2, c2, rfl⟩, g2⟩
  have U2 := Lib.hid (show Up w w2 from Chg.trans U1.out g2)
  have hsz2 := g2.size
  replace OE := Lib.hid (OE.out.up g2)
  clear g2
  replace o0 := Chg.cell U2.out O0.out id
  replace o2 := Chg.cell U2.out O2.out id
  replace o3 := Chg.cell U2.out O3.out id
  have HZ2 := Lib.hid (show w.heap.size < w2.heap.size by simp at hsz1; omega)
  clear hsz1 hsz2 C1
  go_wp2_with fail
  refine (HD.out _ U2.out HZ2.out).mono ?_
  rintro e w3 ⟨rfl, j3, g3⟩
  have J3 := Lib.hid j3
  have C3 := Lib.hid (show Chg (fun b => S b ∧ b < w.heap.size) w w3 from chg_down U2.out g3)
  replace OE := Lib.hid (OE.out.kept g3 (fun g hg h => by have h1 : w.heap.size = g := (by simpa [Value.ownBlock] using hg); have h2 := HZ2.out; rcases h with ⟨-, h⟩ | h <;> omega))
  replace o0 := Chg.cell C3.out O0.out (fun h => HBB.out h.1)
  have o1 := Chg.cell C3.out O1.out (fun h => HBB.out h.1)
  replace o2 := Chg.cell C3.out O2.out (fun h => HBB.out h.1)
  have o6 := Chg.cell C3.out O6.out (fun h => HBB.out h.1)
  have HZ3 := Lib.hid (show w.heap.size < w3.heap.size by have h1 := HZ2.out; have h2 := g3.size; omega)
  clear j3 g3 o3
  by_cases hc : code = 0
  case neg =>
    have hc2 : (code == 0) = false := by simpa using hc
    go_wp2
    go_ret2
    exact ⟨fun _ => rfl, fun h => absurd h hc, C3.out⟩
  case pos =>
    obtain ⟨rfl⟩ : code = 0 := hc
    have JJ := J3.out rfl
    go_wp2_with fail
    have P0 := Lib.hid o0
    have P1 := Lib.hid o1
    have P2 := Lib.hid o2
    have P6 := Lib.hid o6
    go_cut [10] (fun y wx => y = .pointer (some ⟨w3.heap.size, 0, none⟩) ∧ Hid (∀ t (h : t < 6), CellU wx ⟨w3.heap.size, t, none⟩ ([Value.int .i64 0, .int .i64 z, .int .i64 0, .int .i64 fb, .int .i64 car, .int .i64 d][t])) ∧ Hid (Up w3 wx))
    case first =>
      have UG := Lib.hid (Chg.refl Nowhere w3)
      refine wp_region_noPanic ?_
      go_region_held3 (fun w' => w'.cell? ⟨bo, oi, none⟩ = some (.int .i64 1) ∧ w'.cell? ⟨bo, oi + 1, none⟩ = some (.int .i64 d) ∧ w'.cell? ⟨bo, oi + 2, none⟩ = some (.int .i64 fb) ∧ w'.cell? ⟨bo, oi + 6, none⟩ = some (.int .i64 car)) (exact ⟨Chg.cell (show Up w3 _ from by repeat (first | (with_reducible exact UG.out) | (with_reducible apply Chg.drew) | (with_reducible refine Chg.alloc ?_ _) | ((with_reducible refine Chg.setCell ?_ (.inr ?_) _); rotate_left; (focus (first | (simp; done) | omega | (dsimp only; omega) | (dsimp only; simp; omega)))))) P0.out id, Chg.cell (show Up w3 _ from by repeat (first | (with_reducible exact UG.out) | (with_reducible apply Chg.drew) | (with_reducible refine Chg.alloc ?_ _) | ((with_reducible refine Chg.setCell ?_ (.inr ?_) _); rotate_left; (focus (first | (simp; done) | omega | (dsimp only; omega) | (dsimp only; simp; omega)))))) P1.out id, Chg.cell (show Up w3 _ from by repeat (first | (with_reducible exact UG.out) | (with_reducible apply Chg.drew) | (with_reducible refine Chg.alloc ?_ _) | ((with_reducible refine Chg.setCell ?_ (.inr ?_) _); rotate_left; (focus (first | (simp; done) | omega | (dsimp only; omega) | (dsimp only; simp; omega)))))) P2.out id, Chg.cell (show Up w3 _ from by repeat (first | (with_reducible exact UG.out) | (with_reducible apply Chg.drew) | (with_reducible refine Chg.alloc ?_ _) | ((with_reducible refine Chg.setCell ?_ (.inr ?_) _); rotate_left; (focus (first | (simp; done) | omega | (dsimp only; omega) | (dsimp only; simp; omega)))))) P6.out id⟩) (skip)
      all_goals (refine NoPanic.normal ?_; go_wp2_with fail; go_meet)
      all_goals (refine ⟨rfl, Lib.hid ?_, Lib.hid ?_⟩)
      all_goals (first | exact box6_at _ _ _ _ _ _ _ | exact (by repeat (first | exact Chg.refl _ _ | apply Chg.drew | apply Chg.drewN | refine Chg.alloc ?_ _)))
    case rest =>
      obtain ⟨rfl, hcx, hux⟩ := hcut
      obtain ⟨g, hg⟩ : ∃ g, g = w3.heap.size := ⟨_, rfl⟩
      rw [← hg] at hcx
      try rw [← hg]
      have CX := Lib.hid (Chg.trans C3.out (Chg.of_up hux.out))
      have J3 := Lib.hid JJ
      have UX := Lib.hid hux.out
      have HGG := Lib.hid hg
      have OX := Lib.hid (OE.out.up hux.out)
      have HG : Hid (g < wc.heap.size ∧ w.heap.size < g) := Lib.hid ⟨(hcx.out 0 (by omega)).lt, by rw [hg]; exact HZ3.out⟩
      obtain ⟨c0, f0⟩ := hcx.out 0 (by omega)
      obtain ⟨c1, f1⟩ := hcx.out 1 (by omega)
      obtain ⟨c2, f2⟩ := hcx.out 2 (by omega)
      obtain ⟨c3, f3⟩ := hcx.out 3 (by omega)
      obtain ⟨c4, f4⟩ := hcx.out 4 (by omega)
      obtain ⟨c5, f5⟩ := hcx.out 5 (by omega)
      simp only [List.getElem_cons_zero, List.getElem_cons_succ] at c0 c1 c2 c3 c4 c5
      replace o0 := Chg.cell CX.out O0.out (fun h => HBB.out h.1)
      replace o2 := Chg.cell CX.out O2.out (fun h => HBB.out h.1)
      clear hg hcx hux JJ OE HZ3 P0 P1 P2 P6 o1 o6 HD
      have HY := Lib.hid (show EvM.ok ⟨2, z, n, fb, car, d⟩ from by have h1 := HV.out; have h2 := HZ.out; have h3 := hn; unfold EvM.ok I64 at *; dsimp only; omega)
      have hz9 := HZ.out
      have hgz := HG.out
      go_wp2_with (at_builtin; refine wp_append1Evs rfl _ _ rfl w.heap.size (.slice (some ⟨w.heap.size, 0, none⟩) 0 0) [] rfl (OX.out.kept (show Chg (fun b => b = g) wc _ from (by repeat (first | (with_reducible exact Chg.refl _ _) | (with_reducible apply Chg.drew) | (with_reducible refine Chg.alloc ?_ _) | (with_reducible refine Chg.setCell ?_ (.inl (show g = g from rfl)) _)))) (fun b hb e => by have h1 : w.heap.size = b := (by simpa [Value.ownBlock] using hb); have e : b = g := e; omega)) _ ⟨2, z, n, fb, car, d⟩ rfl (heap_new_at (by simp)) HY.out (by simp) (by simp; omega) ?_; intro v' w' h1 h2 h3; have HO := Lib.hid h1; have HQ := Lib.hid (Chg.trans (Chg.of_up (Chg.new UX.out (show Chg (fun b => b = g) wc _ from (by repeat (first | (with_reducible exact Chg.refl _ _) | (with_reducible apply Chg.drew) | (with_reducible refine Chg.alloc ?_ _) | (with_reducible refine Chg.setCell ?_ (.inl (show g = g from rfl)) _)))) (fun i hi e => by have e : i = g := e; have := HGG.out; omega))) ((Chg.of_grown h2).mono (T := fun x => x = w.heap.size) (fun x _ h => by have h1 : w.heap.size = x := (by simpa [Value.ownBlock] using h); exact h1.symm))); clear h1 h2 h3)
      go_ret2
      refine ⟨⟨_, rfl, HO.out.rd, HJ.out _ _ HQ.out J3.out⟩, ?_⟩
      exact Chg.newS C3.out HQ.out (fun i hi e => by have e : i = w.heap.size := e; omega)
theorem l10Do_2 (w : World) (p bo oi : Nat) (d fb fa tb ta car rk : Int) (z code : Int) (n : Nat) (hz : -100000 ≤ z ∧ z ≤ 100000) (hn : n ≤ 4) (hv : I64 fb ∧ I64 car ∧ I64 d) (S : Nat → Prop) (J : World → Prop) (hO : OpC w bo oi ⟨2, d, fb, fa, tb, ta, car, rk⟩) (hb : ¬ S bo)
    (hB : ∀ W, Up w W → Calls Try.prog 96 #[.pointer (some ⟨p, 0, none⟩), .agg #[.int .i64 fb, .int .i64 fa]] W fun e w' => e = .returned (.int .i64 z) ∧ Up W w')
    (hL : ∀ W, Up w W → Calls Try.prog 68 #[.pointer (some ⟨p, 0, none⟩), .agg #[.int .i64 fb, .int .i64 fa]] W fun e w' => (∃ A c, e = .returned (.slice A n c)) ∧ Up W w')
    (hD : ∀ W, Up w W → w.heap.size < W.heap.size → Calls Try.prog 36 #[.pointer (some ⟨p, 0, none⟩), .pointer (some ⟨bo, oi, none⟩)] W fun e w' => e = .returned (.int .i64 code) ∧ (code = 0 → J w') ∧ Chg (fun b => S b ∧ b < w.heap.size ∨ W.heap.size ≤ b) W w')
    (hJ : ∀ a b, Chg (fun x => x = w.heap.size) a b → J a → J b) :
    Calls Try.prog 71 #[.pointer (some ⟨p, 0, none⟩), .pointer (some ⟨bo, oi, none⟩)] w fun e w' => (code ≠ 0 → e = .returned (.tuple #[.slice none 0 0, .int .i64 code])) ∧ (code = 0 → ∃ v, e = .returned (.tuple #[v, .int .i64 0]) ∧ Evs w' (New w.heap.size w'.heap.size) v [⟨3, z + n, 0, fb, car, d⟩] ∧ J w') ∧ Chg (fun b => S b ∧ b < w.heap.size) w w' := by
  obtain ⟨o0, o1, o2, o3, -, -, o6, -⟩ := hO
  dsimp only at o0 o1 o2 o3 o6
  have hbl := World.block_lt_of_cell? _ _ o0
  have O0 := Lib.hid o0
  have O1 := Lib.hid o1
  have O2 := Lib.hid o2
  have O3 := Lib.hid o3
  have O6 := Lib.hid o6
  have HB := Lib.hid hB
  have HL := Lib.hid hL
  have HD := Lib.hid hD
  have HJ := Lib.hid hJ
  have HBB := Lib.hid hb
  have HV := Lib.hid hv
  have HZ := Lib.hid hz
  clear hB hL hD hJ hb hv o1 o6 hz
  go_enter Try.func71, Try.ntmps71
  go_wp2_with fail
  refine (HB.out _ (by repeat (first | exact Chg.refl _ _ | apply Chg.drew | apply Chg.drewN | refine Chg.alloc ?_ _))).mono ?_
  rintro e w1 ⟨rfl, g1⟩
  have U1 := Lib.hid (show Up w w1 from Chg.trans (by repeat (first | exact Chg.refl _ _ | apply Chg.drew | apply Chg.drewN | refine Chg.alloc ?_ _)) g1)
  have C1 : Hid (∃ OB, OB = w.heap.size) := Lib.hid ⟨_, rfl⟩
  replace o0 := Chg.cell U1.out O0.out id
  replace o2 := Chg.cell U1.out O2.out id
  replace o3 := Chg.cell U1.out O3.out id
  have hsz1 := g1.size
  have OE := Lib.hid (show OwnEvs w1 w.heap.size (.slice (some ⟨w.heap.size, 0, none⟩) 0 0) [] from OwnEvs.up (OwnEvs.made w _ (Nat.le_refl _)) g1)
  clear g1
  go_wp2_with fail
  refine (HL.out _ U1.out).mono ?_
  rintro e w2 ⟨⟨A2, c2, rfl⟩, g2⟩
  have U2 := Lib.hid (show Up w w2 from Chg.trans U1.out g2)
  have hsz2 := g2.size
  replace OE := Lib.hid (OE.out.up g2)
  clear g2
  replace o0 := Chg.cell U2.out O0.out id
  replace o2 := Chg.cell U2.out O2.out id
  replace o3 := Chg.cell U2.out O3.out id
  have HZ2 := Lib.hid (show w.heap.size < w2.heap.size by simp at hsz1; omega)
  clear hsz1 hsz2 C1
  go_wp2_with fail
  refine (HD.out _ U2.out HZ2.out).mono ?_
  rintro e w3 ⟨rfl, j3, g3⟩
  have J3 := Lib.hid j3
  have C3 := Lib.hid (show Chg (fun b => S b ∧ b < w.heap.size) w w3 from chg_down U2.out g3)
  replace OE := Lib.hid (OE.out.kept g3 (fun g hg h => by have h1 : w.heap.size = g := (by simpa [Value.ownBlock] using hg); have h2 := HZ2.out; rcases h with ⟨-, h⟩ | h <;> omega))
  replace o0 := Chg.cell C3.out O0.out (fun h => HBB.out h.1)
  have o1 := Chg.cell C3.out O1.out (fun h => HBB.out h.1)
  replace o2 := Chg.cell C3.out O2.out (fun h => HBB.out h.1)
  have o6 := Chg.cell C3.out O6.out (fun h => HBB.out h.1)
  have HZ3 := Lib.hid (show w.heap.size < w3.heap.size by have h1 := HZ2.out; have h2 := g3.size; omega)
  clear j3 g3 o3
  by_cases hc : code = 0
  case neg =>
    have hc2 : (code == 0) = false := by simpa using hc
    go_wp2
    go_ret2
    exact ⟨fun _ => rfl, fun h => absurd h hc, C3.out⟩
  case pos =>
    obtain ⟨rfl⟩ : code = 0 := hc
    have JJ := J3.out rfl
    go_wp2_with fail
    have P0 := Lib.hid o0
    have P1 := Lib.hid o1
    have P2 := Lib.hid o2
    have P6 := Lib.hid o6
    go_cut [10] (fun y wx => y = .pointer (some ⟨w3.heap.size, 0, none⟩) ∧ Hid (∀ t (h : t < 6), CellU wx ⟨w3.heap.size, t, none⟩ ([Value.int .i64 0, .int .i64 z, .int .i64 0, .int .i64 fb, .int .i64 car, .int .i64 d][t])) ∧ Hid (Up w3 wx))
    case first =>
      have UG := Lib.hid (Chg.refl Nowhere w3)
      refine wp_region_noPanic ?_
      go_region_held3 (fun w' => w'.cell? ⟨bo, oi, none⟩ = some (.int .i64 2) ∧ w'.cell? ⟨bo, oi + 1, none⟩ = some (.int .i64 d) ∧ w'.cell? ⟨bo, oi + 2, none⟩ = some (.int .i64 fb) ∧ w'.cell? ⟨bo, oi + 6, none⟩ = some (.int .i64 car)) (exact ⟨Chg.cell (show Up w3 _ from by repeat (first | (with_reducible exact UG.out) | (with_reducible apply Chg.drew) | (with_reducible refine Chg.alloc ?_ _) | ((with_reducible refine Chg.setCell ?_ (.inr ?_) _); rotate_left; (focus (first | (simp; done) | omega | (dsimp only; omega) | (dsimp only; simp; omega)))))) P0.out id, Chg.cell (show Up w3 _ from by repeat (first | (with_reducible exact UG.out) | (with_reducible apply Chg.drew) | (with_reducible refine Chg.alloc ?_ _) | ((with_reducible refine Chg.setCell ?_ (.inr ?_) _); rotate_left; (focus (first | (simp; done) | omega | (dsimp only; omega) | (dsimp only; simp; omega)))))) P1.out id, Chg.cell (show Up w3 _ from by repeat (first | (with_reducible exact UG.out) | (with_reducible apply Chg.drew) | (with_reducible refine Chg.alloc ?_ _) | ((with_reducible refine Chg.setCell ?_ (.inr ?_) _); rotate_left; (focus (first | (simp; done) | omega | (dsimp only; omega) | (dsimp only; simp; omega)))))) P2.out id, Chg.cell (show Up w3 _ from by repeat (first | (with_reducible exact UG.out) | (with_reducible apply Chg.drew) | (with_reducible refine Chg.alloc ?_ _) | ((with_reducible refine Chg.setCell ?_ (.inr ?_) _); rotate_left; (focus (first | (simp; done) | omega | (dsimp only; omega) | (dsimp only; simp; omega)))))) P6.out id⟩) (skip)
      all_goals (refine NoPanic.normal ?_; go_wp2_with fail; go_meet)
      all_goals (refine ⟨rfl, Lib.hid ?_, Lib.hid ?_⟩)
      all_goals (first | exact box6_at _ _ _ _ _ _ _ | exact (by repeat (first | exact Chg.refl _ _ | apply Chg.drew | apply Chg.drewN | refine Chg.alloc ?_ _)))
    case rest =>
      obtain ⟨rfl, hcx, hux⟩ := hcut
      obtain ⟨g, hg⟩ : ∃ g, g = w3.heap.size := ⟨_, rfl⟩
      rw [← hg] at hcx
      try rw [← hg]
      have CX := Lib.hid (Chg.trans C3.out (Chg.of_up hux.out))
      have J3 := Lib.hid JJ
      have UX := Lib.hid hux.out
      have HGG := Lib.hid hg
      have OX := Lib.hid (OE.out.up hux.out)
      have HG : Hid (g < wc.heap.size ∧ w.heap.size < g) := Lib.hid ⟨(hcx.out 0 (by omega)).lt, by rw [hg]; exact HZ3.out⟩
      obtain ⟨c0, f0⟩ := hcx.out 0 (by omega)
      obtain ⟨c1, f1⟩ := hcx.out 1 (by omega)
      obtain ⟨c2, f2⟩ := hcx.out 2 (by omega)
      obtain ⟨c3, f3⟩ := hcx.out 3 (by omega)
      obtain ⟨c4, f4⟩ := hcx.out 4 (by omega)
      obtain ⟨c5, f5⟩ := hcx.out 5 (by omega)
      simp only [List.getElem_cons_zero, List.getElem_cons_succ] at c0 c1 c2 c3 c4 c5
      replace o0 := Chg.cell CX.out O0.out (fun h => HBB.out h.1)
      replace o2 := Chg.cell CX.out O2.out (fun h => HBB.out h.1)
      clear hg hcx hux JJ OE HZ3 P0 P1 P2 P6 o1 o6 HD
      have HY := Lib.hid (show EvM.ok ⟨3, z + n, 0, fb, car, d⟩ from by have h1 := HV.out; have h2 := HZ.out; have h3 := hn; unfold EvM.ok I64 at *; dsimp only; omega)
      have hz9 := HZ.out
      have hgz := HG.out
      go_wp2_with (at_builtin; refine wp_append1Evs rfl _ _ rfl w.heap.size (.slice (some ⟨w.heap.size, 0, none⟩) 0 0) [] rfl (OX.out.kept (show Chg (fun b => b = g) wc _ from (by repeat (first | (with_reducible exact Chg.refl _ _) | (with_reducible apply Chg.drew) | (with_reducible refine Chg.alloc ?_ _) | (with_reducible refine Chg.setCell ?_ (.inl (show g = g from rfl)) _)))) (fun b hb e => by have h1 : w.heap.size = b := (by simpa [Value.ownBlock] using hb); have e : b = g := e; omega)) _ ⟨3, z + n, 0, fb, car, d⟩ rfl (heap_new_at (by simp)) HY.out (by simp) (by simp; omega) ?_; intro v' w' h1 h2 h3; have HO := Lib.hid h1; have HQ := Lib.hid (Chg.trans (Chg.of_up (Chg.new UX.out (show Chg (fun b => b = g) wc _ from (by repeat (first | (with_reducible exact Chg.refl _ _) | (with_reducible apply Chg.drew) | (with_reducible refine Chg.alloc ?_ _) | (with_reducible refine Chg.setCell ?_ (.inl (show g = g from rfl)) _)))) (fun i hi e => by have e : i = g := e; have := HGG.out; omega))) ((Chg.of_grown h2).mono (T := fun x => x = w.heap.size) (fun x _ h => by have h1 : w.heap.size = x := (by simpa [Value.ownBlock] using h); exact h1.symm))); clear h1 h2 h3)
      go_ret2
      refine ⟨⟨_, rfl, HO.out.rd, HJ.out _ _ HQ.out J3.out⟩, ?_⟩
      exact Chg.newS C3.out HQ.out (fun i hi e => by have e : i = w.heap.size := e; omega)
theorem l10Do_3 (w : World) (p bo oi : Nat) (d fb fa tb ta car rk : Int) (z code : Int) (n : Nat) (hz : -100000 ≤ z ∧ z ≤ 100000) (hn : n ≤ 4) (hv : I64 fb ∧ I64 car ∧ I64 d) (S : Nat → Prop) (J : World → Prop) (hO : OpC w bo oi ⟨3, d, fb, fa, tb, ta, car, rk⟩) (hb : ¬ S bo)
    (hB : ∀ W, Up w W → Calls Try.prog 96 #[.pointer (some ⟨p, 0, none⟩), .agg #[.int .i64 fb, .int .i64 fa]] W fun e w' => e = .returned (.int .i64 z) ∧ Up W w')
    (hL : ∀ W, Up w W → Calls Try.prog 68 #[.pointer (some ⟨p, 0, none⟩), .agg #[.int .i64 fb, .int .i64 fa]] W fun e w' => (∃ A c, e = .returned (.slice A n c)) ∧ Up W w')
    (hD : ∀ W, Up w W → w.heap.size < W.heap.size → Calls Try.prog 36 #[.pointer (some ⟨p, 0, none⟩), .pointer (some ⟨bo, oi, none⟩)] W fun e w' => e = .returned (.int .i64 code) ∧ (code = 0 → J w') ∧ Chg (fun b => S b ∧ b < w.heap.size ∨ W.heap.size ≤ b) W w')
    (hJ : ∀ a b, Chg (fun x => x = w.heap.size) a b → J a → J b) :
    Calls Try.prog 71 #[.pointer (some ⟨p, 0, none⟩), .pointer (some ⟨bo, oi, none⟩)] w fun e w' => (code ≠ 0 → e = .returned (.tuple #[.slice none 0 0, .int .i64 code])) ∧ (code = 0 → ∃ v, e = .returned (.tuple #[v, .int .i64 0]) ∧ Evs w' (New w.heap.size w'.heap.size) v [] ∧ J w') ∧ Chg (fun b => S b ∧ b < w.heap.size) w w' := by
  obtain ⟨o0, o1, o2, o3, -, -, o6, -⟩ := hO
  dsimp only at o0 o1 o2 o3 o6
  have hbl := World.block_lt_of_cell? _ _ o0
  have O0 := Lib.hid o0
  have O1 := Lib.hid o1
  have O2 := Lib.hid o2
  have O3 := Lib.hid o3
  have O6 := Lib.hid o6
  have HB := Lib.hid hB
  have HL := Lib.hid hL
  have HD := Lib.hid hD
  have HJ := Lib.hid hJ
  have HBB := Lib.hid hb
  have HV := Lib.hid hv
  have HZ := Lib.hid hz
  clear hB hL hD hJ hb hv o1 o6 hz
  go_enter Try.func71, Try.ntmps71
  go_wp2_with fail
  refine (HB.out _ (by repeat (first | exact Chg.refl _ _ | apply Chg.drew | apply Chg.drewN | refine Chg.alloc ?_ _))).mono ?_
  rintro e w1 ⟨rfl, g1⟩
  have U1 := Lib.hid (show Up w w1 from Chg.trans (by repeat (first | exact Chg.refl _ _ | apply Chg.drew | apply Chg.drewN | refine Chg.alloc ?_ _)) g1)
  have C1 : Hid (∃ OB, OB = w.heap.size) := Lib.hid ⟨_, rfl⟩
  replace o0 := Chg.cell U1.out O0.out id
  replace o2 := Chg.cell U1.out O2.out id
  replace o3 := Chg.cell U1.out O3.out id
  have hsz1 := g1.size
  have OE := Lib.hid (show OwnEvs w1 w.heap.size (.slice (some ⟨w.heap.size, 0, none⟩) 0 0) [] from OwnEvs.up (OwnEvs.made w _ (Nat.le_refl _)) g1)
  clear g1
  go_wp2_with fail
  refine (HL.out _ U1.out).mono ?_
  rintro e w2 ⟨⟨A2, c2, rfl⟩, g2⟩
  have U2 := Lib.hid (show Up w w2 from Chg.trans U1.out g2)
  have hsz2 := g2.size
  replace OE := Lib.hid (OE.out.up g2)
  clear g2
  replace o0 := Chg.cell U2.out O0.out id
  replace o2 := Chg.cell U2.out O2.out id
  replace o3 := Chg.cell U2.out O3.out id
  have HZ2 := Lib.hid (show w.heap.size < w2.heap.size by simp at hsz1; omega)
  clear hsz1 hsz2 C1
  go_wp2_with fail
  refine (HD.out _ U2.out HZ2.out).mono ?_
  rintro e w3 ⟨rfl, j3, g3⟩
  have J3 := Lib.hid j3
  have C3 := Lib.hid (show Chg (fun b => S b ∧ b < w.heap.size) w w3 from chg_down U2.out g3)
  replace OE := Lib.hid (OE.out.kept g3 (fun g hg h => by have h1 : w.heap.size = g := (by simpa [Value.ownBlock] using hg); have h2 := HZ2.out; rcases h with ⟨-, h⟩ | h <;> omega))
  replace o0 := Chg.cell C3.out O0.out (fun h => HBB.out h.1)
  have o1 := Chg.cell C3.out O1.out (fun h => HBB.out h.1)
  replace o2 := Chg.cell C3.out O2.out (fun h => HBB.out h.1)
  have o6 := Chg.cell C3.out O6.out (fun h => HBB.out h.1)
  have HZ3 := Lib.hid (show w.heap.size < w3.heap.size by have h1 := HZ2.out; have h2 := g3.size; omega)
  clear j3 g3 o3
  by_cases hc : code = 0
  case neg =>
    have hc2 : (code == 0) = false := by simpa using hc
    go_wp2
    go_ret2
    exact ⟨fun _ => rfl, fun h => absurd h hc, C3.out⟩
  case pos =>
    obtain ⟨rfl⟩ : code = 0 := hc
    have JJ := J3.out rfl
    go_wp2_with fail
    have P0 := Lib.hid o0
    have P1 := Lib.hid o1
    have P2 := Lib.hid o2
    have P6 := Lib.hid o6
    go_cut [10] (fun y wx => y = .pointer (some ⟨w3.heap.size, 0, none⟩) ∧ Hid (∀ t (h : t < 6), CellU wx ⟨w3.heap.size, t, none⟩ ([Value.int .i64 0, .int .i64 z, .int .i64 0, .int .i64 fb, .int .i64 car, .int .i64 d][t])) ∧ Hid (Up w3 wx))
    case first =>
      have UG := Lib.hid (Chg.refl Nowhere w3)
      refine wp_region_noPanic ?_
      go_region_held3 (fun w' => w'.cell? ⟨bo, oi, none⟩ = some (.int .i64 3) ∧ w'.cell? ⟨bo, oi + 1, none⟩ = some (.int .i64 d) ∧ w'.cell? ⟨bo, oi + 2, none⟩ = some (.int .i64 fb) ∧ w'.cell? ⟨bo, oi + 6, none⟩ = some (.int .i64 car)) (exact ⟨Chg.cell (show Up w3 _ from by repeat (first | (with_reducible exact UG.out) | (with_reducible apply Chg.drew) | (with_reducible refine Chg.alloc ?_ _) | ((with_reducible refine Chg.setCell ?_ (.inr ?_) _); rotate_left; (focus (first | (simp; done) | omega | (dsimp only; omega) | (dsimp only; simp; omega)))))) P0.out id, Chg.cell (show Up w3 _ from by repeat (first | (with_reducible exact UG.out) | (with_reducible apply Chg.drew) | (with_reducible refine Chg.alloc ?_ _) | ((with_reducible refine Chg.setCell ?_ (.inr ?_) _); rotate_left; (focus (first | (simp; done) | omega | (dsimp only; omega) | (dsimp only; simp; omega)))))) P1.out id, Chg.cell (show Up w3 _ from by repeat (first | (with_reducible exact UG.out) | (with_reducible apply Chg.drew) | (with_reducible refine Chg.alloc ?_ _) | ((with_reducible refine Chg.setCell ?_ (.inr ?_) _); rotate_left; (focus (first | (simp; done) | omega | (dsimp only; omega) | (dsimp only; simp; omega)))))) P2.out id, Chg.cell (show Up w3 _ from by repeat (first | (with_reducible exact UG.out) | (with_reducible apply Chg.drew) | (with_reducible refine Chg.alloc ?_ _) | ((with_reducible refine Chg.setCell ?_ (.inr ?_) _); rotate_left; (focus (first | (simp; done) | omega | (dsimp only; omega) | (dsimp only; simp; omega)))))) P6.out id⟩) (skip)
      all_goals (refine NoPanic.normal ?_; go_wp2_with fail; go_meet)
      all_goals (refine ⟨rfl, Lib.hid ?_, Lib.hid ?_⟩)
      all_goals (first | exact box6_at _ _ _ _ _ _ _ | exact (by repeat (first | exact Chg.refl _ _ | apply Chg.drew | apply Chg.drewN | refine Chg.alloc ?_ _)))
    case rest =>
      obtain ⟨rfl, hcx, hux⟩ := hcut
      obtain ⟨g, hg⟩ : ∃ g, g = w3.heap.size := ⟨_, rfl⟩
      rw [← hg] at hcx
      try rw [← hg]
      have CX := Lib.hid (Chg.trans C3.out (Chg.of_up hux.out))
      have J3 := Lib.hid JJ
      have UX := Lib.hid hux.out
      have HGG := Lib.hid hg
      have OX := Lib.hid (OE.out.up hux.out)
      have HG : Hid (g < wc.heap.size ∧ w.heap.size < g) := Lib.hid ⟨(hcx.out 0 (by omega)).lt, by rw [hg]; exact HZ3.out⟩
      obtain ⟨c0, f0⟩ := hcx.out 0 (by omega)
      obtain ⟨c1, f1⟩ := hcx.out 1 (by omega)
      obtain ⟨c2, f2⟩ := hcx.out 2 (by omega)
      obtain ⟨c3, f3⟩ := hcx.out 3 (by omega)
      obtain ⟨c4, f4⟩ := hcx.out 4 (by omega)
      obtain ⟨c5, f5⟩ := hcx.out 5 (by omega)
      simp only [List.getElem_cons_zero, List.getElem_cons_succ] at c0 c1 c2 c3 c4 c5
      replace o0 := Chg.cell CX.out O0.out (fun h => HBB.out h.1)
      replace o2 := Chg.cell CX.out O2.out (fun h => HBB.out h.1)
      clear hg hcx hux JJ OE HZ3 P0 P1 P2 P6 o1 o6 HD
      go_wp2
      go_ret2
      exact ⟨⟨_, rfl, OX.out.rd, HJ.out _ _ (Chg.of_up UX.out) J3.out⟩, CX.out⟩
theorem l10Do_4 (w : World) (p bo oi : Nat) (d fb fa tb ta car rk : Int) (z code : Int) (n : Nat) (hz : -100000 ≤ z ∧ z ≤ 100000) (hn : n ≤ 4) (hv : I64 fb ∧ I64 car ∧ I64 d) (S : Nat → Prop) (J : World → Prop) (hO : OpC w bo oi ⟨4, d, fb, fa, tb, ta, car, rk⟩) (hb : ¬ S bo)
    (hB : ∀ W, Up w W → Calls Try.prog 96 #[.pointer (some ⟨p, 0, none⟩), .agg #[.int .i64 fb, .int .i64 fa]] W fun e w' => e = .returned (.int .i64 z) ∧ Up W w')
    (hL : ∀ W, Up w W → Calls Try.prog 68 #[.pointer (some ⟨p, 0, none⟩), .agg #[.int .i64 fb, .int .i64 fa]] W fun e w' => (∃ A c, e = .returned (.slice A n c)) ∧ Up W w')
    (hD : ∀ W, Up w W → w.heap.size < W.heap.size → Calls Try.prog 36 #[.pointer (some ⟨p, 0, none⟩), .pointer (some ⟨bo, oi, none⟩)] W fun e w' => e = .returned (.int .i64 code) ∧ (code = 0 → J w') ∧ Chg (fun b => S b ∧ b < w.heap.size ∨ W.heap.size ≤ b) W w')
    (hJ : ∀ a b, Chg (fun x => x = w.heap.size) a b → J a → J b) :
    Calls Try.prog 71 #[.pointer (some ⟨p, 0, none⟩), .pointer (some ⟨bo, oi, none⟩)] w fun e w' => (code ≠ 0 → e = .returned (.tuple #[.slice none 0 0, .int .i64 code])) ∧ (code = 0 → ∃ v, e = .returned (.tuple #[v, .int .i64 0]) ∧ Evs w' (New w.heap.size w'.heap.size) v [] ∧ J w') ∧ Chg (fun b => S b ∧ b < w.heap.size) w w' := by
  obtain ⟨o0, o1, o2, o3, -, -, o6, -⟩ := hO
  dsimp only at o0 o1 o2 o3 o6
  have hbl := World.block_lt_of_cell? _ _ o0
  have O0 := Lib.hid o0
  have O1 := Lib.hid o1
  have O2 := Lib.hid o2
  have O3 := Lib.hid o3
  have O6 := Lib.hid o6
  have HB := Lib.hid hB
  have HL := Lib.hid hL
  have HD := Lib.hid hD
  have HJ := Lib.hid hJ
  have HBB := Lib.hid hb
  have HV := Lib.hid hv
  have HZ := Lib.hid hz
  clear hB hL hD hJ hb hv o1 o6 hz
  go_enter Try.func71, Try.ntmps71
  go_wp2_with fail
  refine (HB.out _ (by repeat (first | exact Chg.refl _ _ | apply Chg.drew | apply Chg.drewN | refine Chg.alloc ?_ _))).mono ?_
  rintro e w1 ⟨rfl, g1⟩
  have U1 := Lib.hid (show Up w w1 from Chg.trans (by repeat (first | exact Chg.refl _ _ | apply Chg.drew | apply Chg.drewN | refine Chg.alloc ?_ _)) g1)
  have C1 : Hid (∃ OB, OB = w.heap.size) := Lib.hid ⟨_, rfl⟩
  replace o0 := Chg.cell U1.out O0.out id
  replace o2 := Chg.cell U1.out O2.out id
  replace o3 := Chg.cell U1.out O3.out id
  have hsz1 := g1.size
  have OE := Lib.hid (show OwnEvs w1 w.heap.size (.slice (some ⟨w.heap.size, 0, none⟩) 0 0) [] from OwnEvs.up (OwnEvs.made w _ (Nat.le_refl _)) g1)
  clear g1
  go_wp2_with fail
  refine (HL.out _ U1.out).mono ?_
  rintro e w2 ⟨⟨A2, c2, rfl⟩, g2⟩
  have U2 := Lib.hid (show Up w w2 from Chg.trans U1.out g2)
  have hsz2 := g2.size
  replace OE := Lib.hid (OE.out.up g2)
  clear g2
  replace o0 := Chg.cell U2.out O0.out id
  replace o2 := Chg.cell U2.out O2.out id
  replace o3 := Chg.cell U2.out O3.out id
  have HZ2 := Lib.hid (show w.heap.size < w2.heap.size by simp at hsz1; omega)
  clear hsz1 hsz2 C1
  go_wp2_with fail
  refine (HD.out _ U2.out HZ2.out).mono ?_
  rintro e w3 ⟨rfl, j3, g3⟩
  have J3 := Lib.hid j3
  have C3 := Lib.hid (show Chg (fun b => S b ∧ b < w.heap.size) w w3 from chg_down U2.out g3)
  replace OE := Lib.hid (OE.out.kept g3 (fun g hg h => by have h1 : w.heap.size = g := (by simpa [Value.ownBlock] using hg); have h2 := HZ2.out; rcases h with ⟨-, h⟩ | h <;> omega))
  replace o0 := Chg.cell C3.out O0.out (fun h => HBB.out h.1)
  have o1 := Chg.cell C3.out O1.out (fun h => HBB.out h.1)
  replace o2 := Chg.cell C3.out O2.out (fun h => HBB.out h.1)
  have o6 := Chg.cell C3.out O6.out (fun h => HBB.out h.1)
  have HZ3 := Lib.hid (show w.heap.size < w3.heap.size by have h1 := HZ2.out; have h2 := g3.size; omega)
  clear j3 g3 o3
  by_cases hc : code = 0
  case neg =>
    have hc2 : (code == 0) = false := by simpa using hc
    go_wp2
    go_ret2
    exact ⟨fun _ => rfl, fun h => absurd h hc, C3.out⟩
  case pos =>
    obtain ⟨rfl⟩ : code = 0 := hc
    have JJ := J3.out rfl
    go_wp2_with fail
    have P0 := Lib.hid o0
    have P1 := Lib.hid o1
    have P2 := Lib.hid o2
    have P6 := Lib.hid o6
    go_cut [10] (fun y wx => y = .pointer (some ⟨w3.heap.size, 0, none⟩) ∧ Hid (∀ t (h : t < 6), CellU wx ⟨w3.heap.size, t, none⟩ ([Value.int .i64 0, .int .i64 z, .int .i64 0, .int .i64 fb, .int .i64 car, .int .i64 d][t])) ∧ Hid (Up w3 wx))
    case first =>
      have UG := Lib.hid (Chg.refl Nowhere w3)
      refine wp_region_noPanic ?_
      go_region_held3 (fun w' => w'.cell? ⟨bo, oi, none⟩ = some (.int .i64 4) ∧ w'.cell? ⟨bo, oi + 1, none⟩ = some (.int .i64 d) ∧ w'.cell? ⟨bo, oi + 2, none⟩ = some (.int .i64 fb) ∧ w'.cell? ⟨bo, oi + 6, none⟩ = some (.int .i64 car)) (exact ⟨Chg.cell (show Up w3 _ from by repeat (first | (with_reducible exact UG.out) | (with_reducible apply Chg.drew) | (with_reducible refine Chg.alloc ?_ _) | ((with_reducible refine Chg.setCell ?_ (.inr ?_) _); rotate_left; (focus (first | (simp; done) | omega | (dsimp only; omega) | (dsimp only; simp; omega)))))) P0.out id, Chg.cell (show Up w3 _ from by repeat (first | (with_reducible exact UG.out) | (with_reducible apply Chg.drew) | (with_reducible refine Chg.alloc ?_ _) | ((with_reducible refine Chg.setCell ?_ (.inr ?_) _); rotate_left; (focus (first | (simp; done) | omega | (dsimp only; omega) | (dsimp only; simp; omega)))))) P1.out id, Chg.cell (show Up w3 _ from by repeat (first | (with_reducible exact UG.out) | (with_reducible apply Chg.drew) | (with_reducible refine Chg.alloc ?_ _) | ((with_reducible refine Chg.setCell ?_ (.inr ?_) _); rotate_left; (focus (first | (simp; done) | omega | (dsimp only; omega) | (dsimp only; simp; omega)))))) P2.out id, Chg.cell (show Up w3 _ from by repeat (first | (with_reducible exact UG.out) | (with_reducible apply Chg.drew) | (with_reducible refine Chg.alloc ?_ _) | ((with_reducible refine Chg.setCell ?_ (.inr ?_) _); rotate_left; (focus (first | (simp; done) | omega | (dsimp only; omega) | (dsimp only; simp; omega)))))) P6.out id⟩) (skip)
      all_goals (refine NoPanic.normal ?_; go_wp2_with fail; go_meet)
      all_goals (refine ⟨rfl, Lib.hid ?_, Lib.hid ?_⟩)
      all_goals (first | exact box6_at _ _ _ _ _ _ _ | exact (by repeat (first | exact Chg.refl _ _ | apply Chg.drew | apply Chg.drewN | refine Chg.alloc ?_ _)))
    case rest =>
      obtain ⟨rfl, hcx, hux⟩ := hcut
      obtain ⟨g, hg⟩ : ∃ g, g = w3.heap.size := ⟨_, rfl⟩
      rw [← hg] at hcx
      try rw [← hg]
      have CX := Lib.hid (Chg.trans C3.out (Chg.of_up hux.out))
      have J3 := Lib.hid JJ
      have UX := Lib.hid hux.out
      have HGG := Lib.hid hg
      have OX := Lib.hid (OE.out.up hux.out)
      have HG : Hid (g < wc.heap.size ∧ w.heap.size < g) := Lib.hid ⟨(hcx.out 0 (by omega)).lt, by rw [hg]; exact HZ3.out⟩
      obtain ⟨c0, f0⟩ := hcx.out 0 (by omega)
      obtain ⟨c1, f1⟩ := hcx.out 1 (by omega)
      obtain ⟨c2, f2⟩ := hcx.out 2 (by omega)
      obtain ⟨c3, f3⟩ := hcx.out 3 (by omega)
      obtain ⟨c4, f4⟩ := hcx.out 4 (by omega)
      obtain ⟨c5, f5⟩ := hcx.out 5 (by omega)
      simp only [List.getElem_cons_zero, List.getElem_cons_succ] at c0 c1 c2 c3 c4 c5
      replace o0 := Chg.cell CX.out O0.out (fun h => HBB.out h.1)
      replace o2 := Chg.cell CX.out O2.out (fun h => HBB.out h.1)
      clear hg hcx hux JJ OE HZ3 P0 P1 P2 P6 o1 o6 HD
      go_wp2
      go_ret2
      exact ⟨⟨_, rfl, OX.out.rd, HJ.out _ _ (Chg.of_up UX.out) J3.out⟩, CX.out⟩
theorem l10Do_5f (w : World) (p bo oi : Nat) (d fb fa tb ta car rk : Int) (z code : Int) (n : Nat) (hz : -100000 ≤ z ∧ z ≤ 100000) (hn : n ≤ 4) (hv : I64 fb ∧ I64 car ∧ I64 d) (S : Nat → Prop) (J : World → Prop) (hO : OpC w bo oi ⟨5, d, fb, fa, tb, ta, car, rk⟩) (hb : ¬ S bo) (hf : (fb == 2) = false)
    (hB : ∀ W, Up w W → Calls Try.prog 96 #[.pointer (some ⟨p, 0, none⟩), .agg #[.int .i64 fb, .int .i64 fa]] W fun e w' => e = .returned (.int .i64 z) ∧ Up W w')
    (hL : ∀ W, Up w W → Calls Try.prog 68 #[.pointer (some ⟨p, 0, none⟩), .agg #[.int .i64 fb, .int .i64 fa]] W fun e w' => (∃ A c, e = .returned (.slice A n c)) ∧ Up W w')
    (hD : ∀ W, Up w W → w.heap.size < W.heap.size → Calls Try.prog 36 #[.pointer (some ⟨p, 0, none⟩), .pointer (some ⟨bo, oi, none⟩)] W fun e w' => e = .returned (.int .i64 code) ∧ (code = 0 → J w') ∧ Chg (fun b => S b ∧ b < w.heap.size ∨ W.heap.size ≤ b) W w')
    (hJ : ∀ a b, Chg (fun x => x = w.heap.size) a b → J a → J b) :
    Calls Try.prog 71 #[.pointer (some ⟨p, 0, none⟩), .pointer (some ⟨bo, oi, none⟩)] w fun e w' => (code ≠ 0 → e = .returned (.tuple #[.slice none 0 0, .int .i64 code])) ∧ (code = 0 → ∃ v, e = .returned (.tuple #[v, .int .i64 0]) ∧ Evs w' (New w.heap.size w'.heap.size) v [⟨5, z, n, fb, car, d⟩] ∧ J w') ∧ Chg (fun b => S b ∧ b < w.heap.size) w w' := by
  obtain ⟨o0, o1, o2, o3, -, -, o6, -⟩ := hO
  dsimp only at o0 o1 o2 o3 o6
  have hbl := World.block_lt_of_cell? _ _ o0
  have O0 := Lib.hid o0
  have O1 := Lib.hid o1
  have O2 := Lib.hid o2
  have O3 := Lib.hid o3
  have O6 := Lib.hid o6
  have HB := Lib.hid hB
  have HL := Lib.hid hL
  have HD := Lib.hid hD
  have HJ := Lib.hid hJ
  have HBB := Lib.hid hb
  have HV := Lib.hid hv
  have HZ := Lib.hid hz
  clear hB hL hD hJ hb hv o1 o6 hz
  go_enter Try.func71, Try.ntmps71
  go_wp2_with fail
  refine (HB.out _ (by repeat (first | exact Chg.refl _ _ | apply Chg.drew | apply Chg.drewN | refine Chg.alloc ?_ _))).mono ?_
  rintro e w1 ⟨rfl, g1⟩
  have U1 := Lib.hid (show Up w w1 from Chg.trans (by repeat (first | exact Chg.refl _ _ | apply Chg.drew | apply Chg.drewN | refine Chg.alloc ?_ _)) g1)
  have C1 : Hid (∃ OB, OB = w.heap.size) := Lib.hid ⟨_, rfl⟩
  replace o0 := Chg.cell U1.out O0.out id
  replace o2 := Chg.cell U1.out O2.out id
  replace o3 := Chg.cell U1.out O3.out id
  have hsz1 := g1.size
  have OE := Lib.hid (show OwnEvs w1 w.heap.size (.slice (some ⟨w.heap.size, 0, none⟩) 0 0) [] from OwnEvs.up (OwnEvs.made w _ (Nat.le_refl _)) g1)
  clear g1
  go_wp2_with fail
  refine (HL.out _ U1.out).mono ?_
  rintro e w2 ⟨⟨A2, c2, rfl⟩, g2⟩
  have U2 := Lib.hid (show Up w w2 from Chg.trans U1.out g2)
  have hsz2 := g2.size
  replace OE := Lib.hid (OE.out.up g2)
  clear g2
  replace o0 := Chg.cell U2.out O0.out id
  replace o2 := Chg.cell U2.out O2.out id
  replace o3 := Chg.cell U2.out O3.out id
  have HZ2 := Lib.hid (show w.heap.size < w2.heap.size by simp at hsz1; omega)
  clear hsz1 hsz2 C1
  go_wp2_with fail
  refine (HD.out _ U2.out HZ2.out).mono ?_
  rintro e w3 ⟨rfl, j3, g3⟩
  have J3 := Lib.hid j3
  have C3 := Lib.hid (show Chg (fun b => S b ∧ b < w.heap.size) w w3 from chg_down U2.out g3)
  replace OE := Lib.hid (OE.out.kept g3 (fun g hg h => by have h1 : w.heap.size = g := (by simpa [Value.ownBlock] using hg); have h2 := HZ2.out; rcases h with ⟨-, h⟩ | h <;> omega))
  replace o0 := Chg.cell C3.out O0.out (fun h => HBB.out h.1)
  have o1 := Chg.cell C3.out O1.out (fun h => HBB.out h.1)
  replace o2 := Chg.cell C3.out O2.out (fun h => HBB.out h.1)
  have o6 := Chg.cell C3.out O6.out (fun h => HBB.out h.1)
  have HZ3 := Lib.hid (show w.heap.size < w3.heap.size by have h1 := HZ2.out; have h2 := g3.size; omega)
  clear j3 g3 o3
  by_cases hc : code = 0
  case neg =>
    have hc2 : (code == 0) = false := by simpa using hc
    go_wp2
    go_ret2
    exact ⟨fun _ => rfl, fun h => absurd h hc, C3.out⟩
  case pos =>
    obtain ⟨rfl⟩ : code = 0 := hc
    have JJ := J3.out rfl
    go_wp2_with fail
    have P0 := Lib.hid o0
    have P1 := Lib.hid o1
    have P2 := Lib.hid o2
    have P6 := Lib.hid o6
    go_cut [10] (fun y wx => y = .pointer (some ⟨w3.heap.size, 0, none⟩) ∧ Hid (∀ t (h : t < 6), CellU wx ⟨w3.heap.size, t, none⟩ ([Value.int .i64 0, .int .i64 z, .int .i64 0, .int .i64 fb, .int .i64 car, .int .i64 d][t])) ∧ Hid (Up w3 wx))
    case first =>
      have UG := Lib.hid (Chg.refl Nowhere w3)
      refine wp_region_noPanic ?_
      go_region_held3 (fun w' => w'.cell? ⟨bo, oi, none⟩ = some (.int .i64 5) ∧ w'.cell? ⟨bo, oi + 1, none⟩ = some (.int .i64 d) ∧ w'.cell? ⟨bo, oi + 2, none⟩ = some (.int .i64 fb) ∧ w'.cell? ⟨bo, oi + 6, none⟩ = some (.int .i64 car)) (exact ⟨Chg.cell (show Up w3 _ from by repeat (first | (with_reducible exact UG.out) | (with_reducible apply Chg.drew) | (with_reducible refine Chg.alloc ?_ _) | ((with_reducible refine Chg.setCell ?_ (.inr ?_) _); rotate_left; (focus (first | (simp; done) | omega | (dsimp only; omega) | (dsimp only; simp; omega)))))) P0.out id, Chg.cell (show Up w3 _ from by repeat (first | (with_reducible exact UG.out) | (with_reducible apply Chg.drew) | (with_reducible refine Chg.alloc ?_ _) | ((with_reducible refine Chg.setCell ?_ (.inr ?_) _); rotate_left; (focus (first | (simp; done) | omega | (dsimp only; omega) | (dsimp only; simp; omega)))))) P1.out id, Chg.cell (show Up w3 _ from by repeat (first | (with_reducible exact UG.out) | (with_reducible apply Chg.drew) | (with_reducible refine Chg.alloc ?_ _) | ((with_reducible refine Chg.setCell ?_ (.inr ?_) _); rotate_left; (focus (first | (simp; done) | omega | (dsimp only; omega) | (dsimp only; simp; omega)))))) P2.out id, Chg.cell (show Up w3 _ from by repeat (first | (with_reducible exact UG.out) | (with_reducible apply Chg.drew) | (with_reducible refine Chg.alloc ?_ _) | ((with_reducible refine Chg.setCell ?_ (.inr ?_) _); rotate_left; (focus (first | (simp; done) | omega | (dsimp only; omega) | (dsimp only; simp; omega)))))) P6.out id⟩) (skip)
      all_goals (refine NoPanic.normal ?_; go_wp2_with fail; go_meet)
      all_goals (refine ⟨rfl, Lib.hid ?_, Lib.hid ?_⟩)
      all_goals (first | exact box6_at _ _ _ _ _ _ _ | exact (by repeat (first | exact Chg.refl _ _ | apply Chg.drew | apply Chg.drewN | refine Chg.alloc ?_ _)))
    case rest =>
      obtain ⟨rfl, hcx, hux⟩ := hcut
      obtain ⟨g, hg⟩ : ∃ g, g = w3.heap.size := ⟨_, rfl⟩
      rw [← hg] at hcx
      try rw [← hg]
      have CX := Lib.hid (Chg.trans C3.out (Chg.of_up hux.out))
      have J3 := Lib.hid JJ
      have UX := Lib.hid hux.out
      have HGG := Lib.hid hg
      have OX := Lib.hid (OE.out.up hux.out)
      have HG : Hid (g < wc.heap.size ∧ w.heap.size < g) := Lib.hid ⟨(hcx.out 0 (by omega)).lt, by rw [hg]; exact HZ3.out⟩
      obtain ⟨c0, f0⟩ := hcx.out 0 (by omega)
      obtain ⟨c1, f1⟩ := hcx.out 1 (by omega)
      obtain ⟨c2, f2⟩ := hcx.out 2 (by omega)
      obtain ⟨c3, f3⟩ := hcx.out 3 (by omega)
      obtain ⟨c4, f4⟩ := hcx.out 4 (by omega)
      obtain ⟨c5, f5⟩ := hcx.out 5 (by omega)
      simp only [List.getElem_cons_zero, List.getElem_cons_succ] at c0 c1 c2 c3 c4 c5
      replace o0 := Chg.cell CX.out O0.out (fun h => HBB.out h.1)
      replace o2 := Chg.cell CX.out O2.out (fun h => HBB.out h.1)
      clear hg hcx hux JJ OE HZ3 P0 P1 P2 P6 o1 o6 HD
      have HY := Lib.hid (show EvM.ok ⟨5, z, n, fb, car, d⟩ from by have h1 := HV.out; have h2 := HZ.out; have h3 := hn; unfold EvM.ok I64 at *; dsimp only; omega)
      have hz9 := HZ.out
      have hgz := HG.out
      go_wp2_with (at_builtin; refine wp_append1Evs rfl _ _ rfl w.heap.size (.slice (some ⟨w.heap.size, 0, none⟩) 0 0) [] rfl (OX.out.kept (show Chg (fun b => b = g) wc _ from (by repeat (first | (with_reducible exact Chg.refl _ _) | (with_reducible apply Chg.drew) | (with_reducible refine Chg.alloc ?_ _) | (with_reducible refine Chg.setCell ?_ (.inl (show g = g from rfl)) _)))) (fun b hb e => by have h1 : w.heap.size = b := (by simpa [Value.ownBlock] using hb); have e : b = g := e; omega)) _ ⟨5, z, n, fb, car, d⟩ rfl (heap_new_at (by simp)) HY.out (by simp) (by simp; omega) ?_; intro v' w' h1 h2 h3; have HO := Lib.hid h1; have HQ := Lib.hid (Chg.trans (Chg.of_up (Chg.new UX.out (show Chg (fun b => b = g) wc _ from (by repeat (first | (with_reducible exact Chg.refl _ _) | (with_reducible apply Chg.drew) | (with_reducible refine Chg.alloc ?_ _) | (with_reducible refine Chg.setCell ?_ (.inl (show g = g from rfl)) _)))) (fun i hi e => by have e : i = g := e; have := HGG.out; omega))) ((Chg.of_grown h2).mono (T := fun x => x = w.heap.size) (fun x _ h => by have h1 : w.heap.size = x := (by simpa [Value.ownBlock] using h); exact h1.symm))); clear h1 h2 h3)
      go_ret2
      refine ⟨⟨_, rfl, HO.out.rd, HJ.out _ _ HQ.out J3.out⟩, ?_⟩
      exact Chg.newS C3.out HQ.out (fun i hi e => by have e : i = w.heap.size := e; omega)
theorem l10Do_5b (w : World) (p bo oi : Nat) (d fb fa tb ta car rk : Int) (z code : Int) (n : Nat) (hz : -100000 ≤ z ∧ z ≤ 100000) (hn : n ≤ 4) (hv : I64 fb ∧ I64 car ∧ I64 d) (S : Nat → Prop) (J : World → Prop) (hO : OpC w bo oi ⟨5, d, fb, fa, tb, ta, car, rk⟩) (hb : ¬ S bo) (hf : (fb == 2) = true)
    (hB : ∀ W, Up w W → Calls Try.prog 96 #[.pointer (some ⟨p, 0, none⟩), .agg #[.int .i64 fb, .int .i64 fa]] W fun e w' => e = .returned (.int .i64 z) ∧ Up W w')
    (hL : ∀ W, Up w W → Calls Try.prog 68 #[.pointer (some ⟨p, 0, none⟩), .agg #[.int .i64 fb, .int .i64 fa]] W fun e w' => (∃ A c, e = .returned (.slice A n c)) ∧ Up W w')
    (hD : ∀ W, Up w W → w.heap.size < W.heap.size → Calls Try.prog 36 #[.pointer (some ⟨p, 0, none⟩), .pointer (some ⟨bo, oi, none⟩)] W fun e w' => e = .returned (.int .i64 code) ∧ (code = 0 → J w') ∧ Chg (fun b => S b ∧ b < w.heap.size ∨ W.heap.size ≤ b) W w')
    (hJ : ∀ a b, Chg (fun x => x = w.heap.size) a b → J a → J b) :
    Calls Try.prog 71 #[.pointer (some ⟨p, 0, none⟩), .pointer (some ⟨bo, oi, none⟩)] w fun e w' => (code ≠ 0 → e = .returned (.tuple #[.slice none 0 0, .int .i64 code])) ∧ (code = 0 → ∃ v, e = .returned (.tuple #[v, .int .i64 0]) ∧ Evs w' (New w.heap.size w'.heap.size) v [⟨5, z + n, n, fb, car, d⟩] ∧ J w') ∧ Chg (fun b => S b ∧ b < w.heap.size) w w' := by
  obtain ⟨o0, o1, o2, o3, -, -, o6, -⟩ := hO
  dsimp only at o0 o1 o2 o3 o6
  have hbl := World.block_lt_of_cell? _ _ o0
  have O0 := Lib.hid o0
  have O1 := Lib.hid o1
  have O2 := Lib.hid o2
  have O3 := Lib.hid o3
  have O6 := Lib.hid o6
  have HB := Lib.hid hB
  have HL := Lib.hid hL
  have HD := Lib.hid hD
  have HJ := Lib.hid hJ
  have HBB := Lib.hid hb
  have HV := Lib.hid hv
  have HZ := Lib.hid hz
  clear hB hL hD hJ hb hv o1 o6 hz
  go_enter Try.func71, Try.ntmps71
  go_wp2_with fail
  refine (HB.out _ (by repeat (first | exact Chg.refl _ _ | apply Chg.drew | apply Chg.drewN | refine Chg.alloc ?_ _))).mono ?_
  rintro e w1 ⟨rfl, g1⟩
  have U1 := Lib.hid (show Up w w1 from Chg.trans (by repeat (first | exact Chg.refl _ _ | apply Chg.drew | apply Chg.drewN | refine Chg.alloc ?_ _)) g1)
  have C1 : Hid (∃ OB, OB = w.heap.size) := Lib.hid ⟨_, rfl⟩
  replace o0 := Chg.cell U1.out O0.out id
  replace o2 := Chg.cell U1.out O2.out id
  replace o3 := Chg.cell U1.out O3.out id
  have hsz1 := g1.size
  have OE := Lib.hid (show OwnEvs w1 w.heap.size (.slice (some ⟨w.heap.size, 0, none⟩) 0 0) [] from OwnEvs.up (OwnEvs.made w _ (Nat.le_refl _)) g1)
  clear g1
  go_wp2_with fail
  refine (HL.out _ U1.out).mono ?_
  rintro e w2 ⟨⟨A2, c2, rfl⟩, g2⟩
  have U2 := Lib.hid (show Up w w2 from Chg.trans U1.out g2)
  have hsz2 := g2.size
  replace OE := Lib.hid (OE.out.up g2)
  clear g2
  replace o0 := Chg.cell U2.out O0.out id
  replace o2 := Chg.cell U2.out O2.out id
  replace o3 := Chg.cell U2.out O3.out id
  have HZ2 := Lib.hid (show w.heap.size < w2.heap.size by simp at hsz1; omega)
  clear hsz1 hsz2 C1
  go_wp2_with fail
  refine (HD.out _ U2.out HZ2.out).mono ?_
  rintro e w3 ⟨rfl, j3, g3⟩
  have J3 := Lib.hid j3
  have C3 := Lib.hid (show Chg (fun b => S b ∧ b < w.heap.size) w w3 from chg_down U2.out g3)
  replace OE := Lib.hid (OE.out.kept g3 (fun g hg h => by have h1 : w.heap.size = g := (by simpa [Value.ownBlock] using hg); have h2 := HZ2.out; rcases h with ⟨-, h⟩ | h <;> omega))
  replace o0 := Chg.cell C3.out O0.out (fun h => HBB.out h.1)
  have o1 := Chg.cell C3.out O1.out (fun h => HBB.out h.1)
  replace o2 := Chg.cell C3.out O2.out (fun h => HBB.out h.1)
  have o6 := Chg.cell C3.out O6.out (fun h => HBB.out h.1)
  have HZ3 := Lib.hid (show w.heap.size < w3.heap.size by have h1 := HZ2.out; have h2 := g3.size; omega)
  clear j3 g3 o3
  by_cases hc : code = 0
  case neg =>
    have hc2 : (code == 0) = false := by simpa using hc
    go_wp2
    go_ret2
    exact ⟨fun _ => rfl, fun h => absurd h hc, C3.out⟩
  case pos =>
    obtain ⟨rfl⟩ : code = 0 := hc
    have JJ := J3.out rfl
    go_wp2_with fail
    have P0 := Lib.hid o0
    have P1 := Lib.hid o1
    have P2 := Lib.hid o2
    have P6 := Lib.hid o6
    go_cut [10] (fun y wx => y = .pointer (some ⟨w3.heap.size, 0, none⟩) ∧ Hid (∀ t (h : t < 6), CellU wx ⟨w3.heap.size, t, none⟩ ([Value.int .i64 0, .int .i64 z, .int .i64 0, .int .i64 fb, .int .i64 car, .int .i64 d][t])) ∧ Hid (Up w3 wx))
    case first =>
      have UG := Lib.hid (Chg.refl Nowhere w3)
      refine wp_region_noPanic ?_
      go_region_held3 (fun w' => w'.cell? ⟨bo, oi, none⟩ = some (.int .i64 5) ∧ w'.cell? ⟨bo, oi + 1, none⟩ = some (.int .i64 d) ∧ w'.cell? ⟨bo, oi + 2, none⟩ = some (.int .i64 fb) ∧ w'.cell? ⟨bo, oi + 6, none⟩ = some (.int .i64 car)) (exact ⟨Chg.cell (show Up w3 _ from by repeat (first | (with_reducible exact UG.out) | (with_reducible apply Chg.drew) | (with_reducible refine Chg.alloc ?_ _) | ((with_reducible refine Chg.setCell ?_ (.inr ?_) _); rotate_left; (focus (first | (simp; done) | omega | (dsimp only; omega) | (dsimp only; simp; omega)))))) P0.out id, Chg.cell (show Up w3 _ from by repeat (first | (with_reducible exact UG.out) | (with_reducible apply Chg.drew) | (with_reducible refine Chg.alloc ?_ _) | ((with_reducible refine Chg.setCell ?_ (.inr ?_) _); rotate_left; (focus (first | (simp; done) | omega | (dsimp only; omega) | (dsimp only; simp; omega)))))) P1.out id, Chg.cell (show Up w3 _ from by repeat (first | (with_reducible exact UG.out) | (with_reducible apply Chg.drew) | (with_reducible refine Chg.alloc ?_ _) | ((with_reducible refine Chg.setCell ?_ (.inr ?_) _); rotate_left; (focus (first | (simp; done) | omega | (dsimp only; omega) | (dsimp only; simp; omega)))))) P2.out id, Chg.cell (show Up w3 _ from by repeat (first | (with_reducible exact UG.out) | (with_reducible apply Chg.drew) | (with_reducible refine Chg.alloc ?_ _) | ((with_reducible refine Chg.setCell ?_ (.inr ?_) _); rotate_left; (focus (first | (simp; done) | omega | (dsimp only; omega) | (dsimp only; simp; omega)))))) P6.out id⟩) (skip)
      all_goals (refine NoPanic.normal ?_; go_wp2_with fail; go_meet)
      all_goals (refine ⟨rfl, Lib.hid ?_, Lib.hid ?_⟩)
      all_goals (first | exact box6_at _ _ _ _ _ _ _ | exact (by repeat (first | exact Chg.refl _ _ | apply Chg.drew | apply Chg.drewN | refine Chg.alloc ?_ _)))
    case rest =>
      obtain ⟨rfl, hcx, hux⟩ := hcut
      obtain ⟨g, hg⟩ : ∃ g, g = w3.heap.size := ⟨_, rfl⟩
      rw [← hg] at hcx
      try rw [← hg]
      have CX := Lib.hid (Chg.trans C3.out (Chg.of_up hux.out))
      have J3 := Lib.hid JJ
      have UX := Lib.hid hux.out
      have HGG := Lib.hid hg
      have OX := Lib.hid (OE.out.up hux.out)
      have HG : Hid (g < wc.heap.size ∧ w.heap.size < g) := Lib.hid ⟨(hcx.out 0 (by omega)).lt, by rw [hg]; exact HZ3.out⟩
      obtain ⟨c0, f0⟩ := hcx.out 0 (by omega)
      obtain ⟨c1, f1⟩ := hcx.out 1 (by omega)
      obtain ⟨c2, f2⟩ := hcx.out 2 (by omega)
      obtain ⟨c3, f3⟩ := hcx.out 3 (by omega)
      obtain ⟨c4, f4⟩ := hcx.out 4 (by omega)
      obtain ⟨c5, f5⟩ := hcx.out 5 (by omega)
      simp only [List.getElem_cons_zero, List.getElem_cons_succ] at c0 c1 c2 c3 c4 c5
      replace o0 := Chg.cell CX.out O0.out (fun h => HBB.out h.1)
      replace o2 := Chg.cell CX.out O2.out (fun h => HBB.out h.1)
      clear hg hcx hux JJ OE HZ3 P0 P1 P2 P6 o1 o6 HD
      have HY := Lib.hid (show EvM.ok ⟨5, z + n, n, fb, car, d⟩ from by have h1 := HV.out; have h2 := HZ.out; have h3 := hn; unfold EvM.ok I64 at *; dsimp only; omega)
      have hz9 := HZ.out
      have hgz := HG.out
      go_wp2_with (at_builtin; refine wp_append1Evs rfl _ _ rfl w.heap.size (.slice (some ⟨w.heap.size, 0, none⟩) 0 0) [] rfl (OX.out.kept (show Chg (fun b => b = g) wc _ from (by repeat (first | (with_reducible exact Chg.refl _ _) | (with_reducible apply Chg.drew) | (with_reducible refine Chg.alloc ?_ _) | (with_reducible refine Chg.setCell ?_ (.inl (show g = g from rfl)) _)))) (fun b hb e => by have h1 : w.heap.size = b := (by simpa [Value.ownBlock] using hb); have e : b = g := e; omega)) _ ⟨5, z + n, n, fb, car, d⟩ rfl (heap_new_at (by simp)) HY.out (by simp) (by simp; omega) ?_; intro v' w' h1 h2 h3; have HO := Lib.hid h1; have HQ := Lib.hid (Chg.trans (Chg.of_up (Chg.new UX.out (show Chg (fun b => b = g) wc _ from (by repeat (first | (with_reducible exact Chg.refl _ _) | (with_reducible apply Chg.drew) | (with_reducible refine Chg.alloc ?_ _) | (with_reducible refine Chg.setCell ?_ (.inl (show g = g from rfl)) _)))) (fun i hi e => by have e : i = g := e; have := HGG.out; omega))) ((Chg.of_grown h2).mono (T := fun x => x = w.heap.size) (fun x _ h => by have h1 : w.heap.size = x := (by simpa [Value.ownBlock] using h); exact h1.symm))); clear h1 h2 h3)
      go_ret2
      refine ⟨⟨_, rfl, HO.out.rd, HJ.out _ _ HQ.out J3.out⟩, ?_⟩
      exact Chg.newS C3.out HQ.out (fun i hi e => by have e : i = w.heap.size := e; omega)
theorem l10Do_6 (w : World) (p bo oi : Nat) (d fb fa tb ta car rk : Int) (z code : Int) (n : Nat) (hz : -100000 ≤ z ∧ z ≤ 100000) (hn : n ≤ 4) (hv : I64 fb ∧ I64 car ∧ I64 d) (S : Nat → Prop) (J : World → Prop) (hO : OpC w bo oi ⟨6, d, fb, fa, tb, ta, car, rk⟩) (hb : ¬ S bo)
    (hB : ∀ W, Up w W → Calls Try.prog 96 #[.pointer (some ⟨p, 0, none⟩), .agg #[.int .i64 fb, .int .i64 fa]] W fun e w' => e = .returned (.int .i64 z) ∧ Up W w')
    (hL : ∀ W, Up w W → Calls Try.prog 68 #[.pointer (some ⟨p, 0, none⟩), .agg #[.int .i64 fb, .int .i64 fa]] W fun e w' => (∃ A c, e = .returned (.slice A n c)) ∧ Up W w')
    (hD : ∀ W, Up w W → w.heap.size < W.heap.size → Calls Try.prog 36 #[.pointer (some ⟨p, 0, none⟩), .pointer (some ⟨bo, oi, none⟩)] W fun e w' => e = .returned (.int .i64 code) ∧ (code = 0 → J w') ∧ Chg (fun b => S b ∧ b < w.heap.size ∨ W.heap.size ≤ b) W w')
    (hJ : ∀ a b, Chg (fun x => x = w.heap.size) a b → J a → J b) :
    Calls Try.prog 71 #[.pointer (some ⟨p, 0, none⟩), .pointer (some ⟨bo, oi, none⟩)] w fun e w' => (code ≠ 0 → e = .returned (.tuple #[.slice none 0 0, .int .i64 code])) ∧ (code = 0 → ∃ v, e = .returned (.tuple #[v, .int .i64 0]) ∧ Evs w' (New w.heap.size w'.heap.size) v [⟨4, z, n, 0, 0, 0⟩] ∧ J w') ∧ Chg (fun b => S b ∧ b < w.heap.size) w w' := by
  obtain ⟨o0, o1, o2, o3, -, -, o6, -⟩ := hO
  dsimp only at o0 o1 o2 o3 o6
  have hbl := World.block_lt_of_cell? _ _ o0
  have O0 := Lib.hid o0
  have O1 := Lib.hid o1
  have O2 := Lib.hid o2
  have O3 := Lib.hid o3
  have O6 := Lib.hid o6
  have HB := Lib.hid hB
  have HL := Lib.hid hL
  have HD := Lib.hid hD
  have HJ := Lib.hid hJ
  have HBB := Lib.hid hb
  have HV := Lib.hid hv
  have HZ := Lib.hid hz
  clear hB hL hD hJ hb hv o1 o6 hz
  go_enter Try.func71, Try.ntmps71
  go_wp2_with fail
  refine (HB.out _ (by repeat (first | exact Chg.refl _ _ | apply Chg.drew | apply Chg.drewN | refine Chg.alloc ?_ _))).mono ?_
  rintro e w1 ⟨rfl, g1⟩
  have U1 := Lib.hid (show Up w w1 from Chg.trans (by repeat (first | exact Chg.refl _ _ | apply Chg.drew | apply Chg.drewN | refine Chg.alloc ?_ _)) g1)
  have C1 : Hid (∃ OB, OB = w.heap.size) := Lib.hid ⟨_, rfl⟩
  replace o0 := Chg.cell U1.out O0.out id
  replace o2 := Chg.cell U1.out O2.out id
  replace o3 := Chg.cell U1.out O3.out id
  have hsz1 := g1.size
  have OE := Lib.hid (show OwnEvs w1 w.heap.size (.slice (some ⟨w.heap.size, 0, none⟩) 0 0) [] from OwnEvs.up (OwnEvs.made w _ (Nat.le_refl _)) g1)
  clear g1
  go_wp2_with fail
  refine (HL.out _ U1.out).mono ?_
  rintro e w2 ⟨⟨A2, c2, rfl⟩, g2⟩
  have U2 := Lib.hid (show Up w w2 from Chg.trans U1.out g2)
  have hsz2 := g2.size
  replace OE := Lib.hid (OE.out.up g2)
  clear g2
  replace o0 := Chg.cell U2.out O0.out id
  replace o2 := Chg.cell U2.out O2.out id
  replace o3 := Chg.cell U2.out O3.out id
  have HZ2 := Lib.hid (show w.heap.size < w2.heap.size by simp at hsz1; omega)
  clear hsz1 hsz2 C1
  go_wp2_with fail
  refine (HD.out _ U2.out HZ2.out).mono ?_
  rintro e w3 ⟨rfl, j3, g3⟩
  have J3 := Lib.hid j3
  have C3 := Lib.hid (show Chg (fun b => S b ∧ b < w.heap.size) w w3 from chg_down U2.out g3)
  replace OE := Lib.hid (OE.out.kept g3 (fun g hg h => by have h1 : w.heap.size = g := (by simpa [Value.ownBlock] using hg); have h2 := HZ2.out; rcases h with ⟨-, h⟩ | h <;> omega))
  replace o0 := Chg.cell C3.out O0.out (fun h => HBB.out h.1)
  have o1 := Chg.cell C3.out O1.out (fun h => HBB.out h.1)
  replace o2 := Chg.cell C3.out O2.out (fun h => HBB.out h.1)
  have o6 := Chg.cell C3.out O6.out (fun h => HBB.out h.1)
  have HZ3 := Lib.hid (show w.heap.size < w3.heap.size by have h1 := HZ2.out; have h2 := g3.size; omega)
  clear j3 g3 o3
  by_cases hc : code = 0
  case neg =>
    have hc2 : (code == 0) = false := by simpa using hc
    go_wp2
    go_ret2
    exact ⟨fun _ => rfl, fun h => absurd h hc, C3.out⟩
  case pos =>
    obtain ⟨rfl⟩ : code = 0 := hc
    have JJ := J3.out rfl
    go_wp2_with fail
    have P0 := Lib.hid o0
    have P1 := Lib.hid o1
    have P2 := Lib.hid o2
    have P6 := Lib.hid o6
    go_cut [10] (fun y wx => y = .pointer (some ⟨w3.heap.size, 0, none⟩) ∧ Hid (∀ t (h : t < 6), CellU wx ⟨w3.heap.size, t, none⟩ ([Value.int .i64 0, .int .i64 z, .int .i64 0, .int .i64 fb, .int .i64 car, .int .i64 d][t])) ∧ Hid (Up w3 wx))
    case first =>
      have UG := Lib.hid (Chg.refl Nowhere w3)
      refine wp_region_noPanic ?_
      go_region_held3 (fun w' => w'.cell? ⟨bo, oi, none⟩ = some (.int .i64 6) ∧ w'.cell? ⟨bo, oi + 1, none⟩ = some (.int .i64 d) ∧ w'.cell? ⟨bo, oi + 2, none⟩ = some (.int .i64 fb) ∧ w'.cell? ⟨bo, oi + 6, none⟩ = some (.int .i64 car)) (exact ⟨Chg.cell (show Up w3 _ from by repeat (first | (with_reducible exact UG.out) | (with_reducible apply Chg.drew) | (with_reducible refine Chg.alloc ?_ _) | ((with_reducible refine Chg.setCell ?_ (.inr ?_) _); rotate_left; (focus (first | (simp; done) | omega | (dsimp only; omega) | (dsimp only; simp; omega)))))) P0.out id, Chg.cell (show Up w3 _ from by repeat (first | (with_reducible exact UG.out) | (with_reducible apply Chg.drew) | (with_reducible refine Chg.alloc ?_ _) | ((with_reducible refine Chg.setCell ?_ (.inr ?_) _); rotate_left; (focus (first | (simp; done) | omega | (dsimp only; omega) | (dsimp only; simp; omega)))))) P1.out id, Chg.cell (show Up w3 _ from by repeat (first | (with_reducible exact UG.out) | (with_reducible apply Chg.drew) | (with_reducible refine Chg.alloc ?_ _) | ((with_reducible refine Chg.setCell ?_ (.inr ?_) _); rotate_left; (focus (first | (simp; done) | omega | (dsimp only; omega) | (dsimp only; simp; omega)))))) P2.out id, Chg.cell (show Up w3 _ from by repeat (first | (with_reducible exact UG.out) | (with_reducible apply Chg.drew) | (with_reducible refine Chg.alloc ?_ _) | ((with_reducible refine Chg.setCell ?_ (.inr ?_) _); rotate_left; (focus (first | (simp; done) | omega | (dsimp only; omega) | (dsimp only; simp; omega)))))) P6.out id⟩) (skip)
      all_goals (refine NoPanic.normal ?_; go_wp2_with fail; go_meet)
      all_goals (refine ⟨rfl, Lib.hid ?_, Lib.hid ?_⟩)
      all_goals (first | exact box6_at _ _ _ _ _ _ _ | exact (by repeat (first | exact Chg.refl _ _ | apply Chg.drew | apply Chg.drewN | refine Chg.alloc ?_ _)))
    case rest =>
      obtain ⟨rfl, hcx, hux⟩ := hcut
      obtain ⟨g, hg⟩ : ∃ g, g = w3.heap.size := ⟨_, rfl⟩
      rw [← hg] at hcx
      try rw [← hg]
      have CX := Lib.hid (Chg.trans C3.out (Chg.of_up hux.out))
      have J3 := Lib.hid JJ
      have UX := Lib.hid hux.out
      have HGG := Lib.hid hg
      have OX := Lib.hid (OE.out.up hux.out)
      have HG : Hid (g < wc.heap.size ∧ w.heap.size < g) := Lib.hid ⟨(hcx.out 0 (by omega)).lt, by rw [hg]; exact HZ3.out⟩
      obtain ⟨c0, f0⟩ := hcx.out 0 (by omega)
      obtain ⟨c1, f1⟩ := hcx.out 1 (by omega)
      obtain ⟨c2, f2⟩ := hcx.out 2 (by omega)
      obtain ⟨c3, f3⟩ := hcx.out 3 (by omega)
      obtain ⟨c4, f4⟩ := hcx.out 4 (by omega)
      obtain ⟨c5, f5⟩ := hcx.out 5 (by omega)
      simp only [List.getElem_cons_zero, List.getElem_cons_succ] at c0 c1 c2 c3 c4 c5
      replace o0 := Chg.cell CX.out O0.out (fun h => HBB.out h.1)
      replace o2 := Chg.cell CX.out O2.out (fun h => HBB.out h.1)
      clear hg hcx hux JJ OE HZ3 P0 P1 P2 P6 o1 o6 HD
      have HY := Lib.hid (show EvM.ok ⟨4, z, n, 0, 0, 0⟩ from by have h1 := HV.out; have h2 := HZ.out; have h3 := hn; unfold EvM.ok I64 at *; dsimp only; omega)
      have hz9 := HZ.out
      have hgz := HG.out
      go_wp2_with (at_builtin; refine wp_append1Evs rfl _ _ rfl w.heap.size (.slice (some ⟨w.heap.size, 0, none⟩) 0 0) [] rfl (OX.out.kept (show Chg (fun b => b = g) wc _ from (by repeat (first | (with_reducible exact Chg.refl _ _) | (with_reducible apply Chg.drew) | (with_reducible refine Chg.alloc ?_ _) | (with_reducible refine Chg.setCell ?_ (.inl (show g = g from rfl)) _)))) (fun b hb e => by have h1 : w.heap.size = b := (by simpa [Value.ownBlock] using hb); have e : b = g := e; omega)) _ ⟨4, z, n, 0, 0, 0⟩ rfl (heap_new_at (by simp)) HY.out (by simp) (by simp; omega) ?_; intro v' w' h1 h2 h3; have HO := Lib.hid h1; have HQ := Lib.hid (Chg.trans (Chg.of_up (Chg.new UX.out (show Chg (fun b => b = g) wc _ from (by repeat (first | (with_reducible exact Chg.refl _ _) | (with_reducible apply Chg.drew) | (with_reducible refine Chg.alloc ?_ _) | (with_reducible refine Chg.setCell ?_ (.inl (show g = g from rfl)) _)))) (fun i hi e => by have e : i = g := e; have := HGG.out; omega))) ((Chg.of_grown h2).mono (T := fun x => x = w.heap.size) (fun x _ h => by have h1 : w.heap.size = x := (by simpa [Value.ownBlock] using h); exact h1.symm))); clear h1 h2 h3)
      go_ret2
      refine ⟨⟨_, rfl, HO.out.rd, HJ.out _ _ HQ.out J3.out⟩, ?_⟩
      exact Chg.newS C3.out HQ.out (fun i hi e => by have e : i = w.heap.size := e; omega)
theorem l10Do_8 (w : World) (p bo oi : Nat) (d fb fa tb ta car rk : Int) (z code : Int) (n : Nat) (hz : -100000 ≤ z ∧ z ≤ 100000) (hn : n ≤ 4) (hv : I64 fb ∧ I64 car ∧ I64 d) (S : Nat → Prop) (J : World → Prop) (hO : OpC w bo oi ⟨8, d, fb, fa, tb, ta, car, rk⟩) (hb : ¬ S bo)
    (hB : ∀ W, Up w W → Calls Try.prog 96 #[.pointer (some ⟨p, 0, none⟩), .agg #[.int .i64 fb, .int .i64 fa]] W fun e w' => e = .returned (.int .i64 z) ∧ Up W w')
    (hL : ∀ W, Up w W → Calls Try.prog 68 #[.pointer (some ⟨p, 0, none⟩), .agg #[.int .i64 fb, .int .i64 fa]] W fun e w' => (∃ A c, e = .returned (.slice A n c)) ∧ Up W w')
    (hD : ∀ W, Up w W → w.heap.size < W.heap.size → Calls Try.prog 36 #[.pointer (some ⟨p, 0, none⟩), .pointer (some ⟨bo, oi, none⟩)] W fun e w' => e = .returned (.int .i64 code) ∧ (code = 0 → J w') ∧ Chg (fun b => S b ∧ b < w.heap.size ∨ W.heap.size ≤ b) W w')
    (hJ : ∀ a b, Chg (fun x => x = w.heap.size) a b → J a → J b) :
    Calls Try.prog 71 #[.pointer (some ⟨p, 0, none⟩), .pointer (some ⟨bo, oi, none⟩)] w fun e w' => (code ≠ 0 → e = .returned (.tuple #[.slice none 0 0, .int .i64 code])) ∧ (code = 0 → ∃ v, e = .returned (.tuple #[v, .int .i64 0]) ∧ Evs w' (New w.heap.size w'.heap.size) v [] ∧ J w') ∧ Chg (fun b => S b ∧ b < w.heap.size) w w' := by
  obtain ⟨o0, o1, o2, o3, -, -, o6, -⟩ := hO
  dsimp only at o0 o1 o2 o3 o6
  have hbl := World.block_lt_of_cell? _ _ o0
  have O0 := Lib.hid o0
  have O1 := Lib.hid o1
  have O2 := Lib.hid o2
  have O3 := Lib.hid o3
  have O6 := Lib.hid o6
  have HB := Lib.hid hB
  have HL := Lib.hid hL
  have HD := Lib.hid hD
  have HJ := Lib.hid hJ
  have HBB := Lib.hid hb
  have HV := Lib.hid hv
  have HZ := Lib.hid hz
  clear hB hL hD hJ hb hv o1 o6 hz
  go_enter Try.func71, Try.ntmps71
  go_wp2_with fail
  refine (HB.out _ (by repeat (first | exact Chg.refl _ _ | apply Chg.drew | apply Chg.drewN | refine Chg.alloc ?_ _))).mono ?_
  rintro e w1 ⟨rfl, g1⟩
  have U1 := Lib.hid (show Up w w1 from Chg.trans (by repeat (first | exact Chg.refl _ _ | apply Chg.drew | apply Chg.drewN | refine Chg.alloc ?_ _)) g1)
  have C1 : Hid (∃ OB, OB = w.heap.size) := Lib.hid ⟨_, rfl⟩
  replace o0 := Chg.cell U1.out O0.out id
  replace o2 := Chg.cell U1.out O2.out id
  replace o3 := Chg.cell U1.out O3.out id
  have hsz1 := g1.size
  have OE := Lib.hid (show OwnEvs w1 w.heap.size (.slice (some ⟨w.heap.size, 0, none⟩) 0 0) [] from OwnEvs.up (OwnEvs.made w _ (Nat.le_refl _)) g1)
  clear g1
  go_wp2_with fail
  refine (HL.out _ U1.out).mono ?_
  rintro e w2 ⟨⟨A2, c2, rfl⟩, g2⟩
  have U2 := Lib.hid (show Up w w2 from Chg.trans U1.out g2)
  have hsz2 := g2.size
  replace OE := Lib.hid (OE.out.up g2)
  clear g2
  replace o0 := Chg.cell U2.out O0.out id
  replace o2 := Chg.cell U2.out O2.out id
  replace o3 := Chg.cell U2.out O3.out id
  have HZ2 := Lib.hid (show w.heap.size < w2.heap.size by simp at hsz1; omega)
  clear hsz1 hsz2 C1
  go_wp2_with fail
  refine (HD.out _ U2.out HZ2.out).mono ?_
  rintro e w3 ⟨rfl, j3, g3⟩
  have J3 := Lib.hid j3
  have C3 := Lib.hid (show Chg (fun b => S b ∧ b < w.heap.size) w w3 from chg_down U2.out g3)
  replace OE := Lib.hid (OE.out.kept g3 (fun g hg h => by have h1 : w.heap.size = g := (by simpa [Value.ownBlock] using hg); have h2 := HZ2.out; rcases h with ⟨-, h⟩ | h <;> omega))
  replace o0 := Chg.cell C3.out O0.out (fun h => HBB.out h.1)
  have o1 := Chg.cell C3.out O1.out (fun h => HBB.out h.1)
  replace o2 := Chg.cell C3.out O2.out (fun h => HBB.out h.1)
  have o6 := Chg.cell C3.out O6.out (fun h => HBB.out h.1)
  have HZ3 := Lib.hid (show w.heap.size < w3.heap.size by have h1 := HZ2.out; have h2 := g3.size; omega)
  clear j3 g3 o3
  by_cases hc : code = 0
  case neg =>
    have hc2 : (code == 0) = false := by simpa using hc
    go_wp2
    go_ret2
    exact ⟨fun _ => rfl, fun h => absurd h hc, C3.out⟩
  case pos =>
    obtain ⟨rfl⟩ : code = 0 := hc
    have JJ := J3.out rfl
    go_wp2_with fail
    have P0 := Lib.hid o0
    have P1 := Lib.hid o1
    have P2 := Lib.hid o2
    have P6 := Lib.hid o6
    go_cut [10] (fun y wx => y = .pointer (some ⟨w3.heap.size, 0, none⟩) ∧ Hid (∀ t (h : t < 6), CellU wx ⟨w3.heap.size, t, none⟩ ([Value.int .i64 0, .int .i64 z, .int .i64 0, .int .i64 fb, .int .i64 car, .int .i64 d][t])) ∧ Hid (Up w3 wx))
    case first =>
      have UG := Lib.hid (Chg.refl Nowhere w3)
      refine wp_region_noPanic ?_
      go_region_held3 (fun w' => w'.cell? ⟨bo, oi, none⟩ = some (.int .i64 8) ∧ w'.cell? ⟨bo, oi + 1, none⟩ = some (.int .i64 d) ∧ w'.cell? ⟨bo, oi + 2, none⟩ = some (.int .i64 fb) ∧ w'.cell? ⟨bo, oi + 6, none⟩ = some (.int .i64 car)) (exact ⟨Chg.cell (show Up w3 _ from by repeat (first | (with_reducible exact UG.out) | (with_reducible apply Chg.drew) | (with_reducible refine Chg.alloc ?_ _) | ((with_reducible refine Chg.setCell ?_ (.inr ?_) _); rotate_left; (focus (first | (simp; done) | omega | (dsimp only; omega) | (dsimp only; simp; omega)))))) P0.out id, Chg.cell (show Up w3 _ from by repeat (first | (with_reducible exact UG.out) | (with_reducible apply Chg.drew) | (with_reducible refine Chg.alloc ?_ _) | ((with_reducible refine Chg.setCell ?_ (.inr ?_) _); rotate_left; (focus (first | (simp; done) | omega | (dsimp only; omega) | (dsimp only; simp; omega)))))) P1.out id, Chg.cell (show Up w3 _ from by repeat (first | (with_reducible exact UG.out) | (with_reducible apply Chg.drew) | (with_reducible refine Chg.alloc ?_ _) | ((with_reducible refine Chg.setCell ?_ (.inr ?_) _); rotate_left; (focus (first | (simp; done) | omega | (dsimp only; omega) | (dsimp only; simp; omega)))))) P2.out id, Chg.cell (show Up w3 _ from by repeat (first | (with_reducible exact UG.out) | (with_reducible apply Chg.drew) | (with_reducible refine Chg.alloc ?_ _) | ((with_reducible refine Chg.setCell ?_ (.inr ?_) _); rotate_left; (focus (first | (simp; done) | omega | (dsimp only; omega) | (dsimp only; simp; omega)))))) P6.out id⟩) (skip)
      all_goals (refine NoPanic.normal ?_; go_wp2_with fail; go_meet)
      all_goals (refine ⟨rfl, Lib.hid ?_, Lib.hid ?_⟩)
      all_goals (first | exact box6_at _ _ _ _ _ _ _ | exact (by repeat (first | exact Chg.refl _ _ | apply Chg.drew | apply Chg.drewN | refine Chg.alloc ?_ _)))
    case rest =>
      obtain ⟨rfl, hcx, hux⟩ := hcut
      obtain ⟨g, hg⟩ : ∃ g, g = w3.heap.size := ⟨_, rfl⟩
      rw [← hg] at hcx
      try rw [← hg]
      have CX := Lib.hid (Chg.trans C3.out (Chg.of_up hux.out))
      have J3 := Lib.hid JJ
      have UX := Lib.hid hux.out
      have HGG := Lib.hid hg
      have OX := Lib.hid (OE.out.up hux.out)
      have HG : Hid (g < wc.heap.size ∧ w.heap.size < g) := Lib.hid ⟨(hcx.out 0 (by omega)).lt, by rw [hg]; exact HZ3.out⟩
      obtain ⟨c0, f0⟩ := hcx.out 0 (by omega)
      obtain ⟨c1, f1⟩ := hcx.out 1 (by omega)
      obtain ⟨c2, f2⟩ := hcx.out 2 (by omega)
      obtain ⟨c3, f3⟩ := hcx.out 3 (by omega)
      obtain ⟨c4, f4⟩ := hcx.out 4 (by omega)
      obtain ⟨c5, f5⟩ := hcx.out 5 (by omega)
      simp only [List.getElem_cons_zero, List.getElem_cons_succ] at c0 c1 c2 c3 c4 c5
      replace o0 := Chg.cell CX.out O0.out (fun h => HBB.out h.1)
      replace o2 := Chg.cell CX.out O2.out (fun h => HBB.out h.1)
      clear hg hcx hux JJ OE HZ3 P0 P1 P2 P6 o1 o6 HD
      go_wp2
      go_ret2
      exact ⟨⟨_, rfl, OX.out.rd, HJ.out _ _ (Chg.of_up UX.out) J3.out⟩, CX.out⟩
theorem l10Do_9 (w : World) (p bo oi : Nat) (d fb fa tb ta car rk : Int) (z code : Int) (n : Nat) (hz : -100000 ≤ z ∧ z ≤ 100000) (hn : n ≤ 4) (hv : I64 fb ∧ I64 car ∧ I64 d) (S : Nat → Prop) (J : World → Prop) (hO : OpC w bo oi ⟨9, d, fb, fa, tb, ta, car, rk⟩) (hb : ¬ S bo)
    (hB : ∀ W, Up w W → Calls Try.prog 96 #[.pointer (some ⟨p, 0, none⟩), .agg #[.int .i64 fb, .int .i64 fa]] W fun e w' => e = .returned (.int .i64 z) ∧ Up W w')
    (hL : ∀ W, Up w W → Calls Try.prog 68 #[.pointer (some ⟨p, 0, none⟩), .agg #[.int .i64 fb, .int .i64 fa]] W fun e w' => (∃ A c, e = .returned (.slice A n c)) ∧ Up W w')
    (hD : ∀ W, Up w W → w.heap.size < W.heap.size → Calls Try.prog 36 #[.pointer (some ⟨p, 0, none⟩), .pointer (some ⟨bo, oi, none⟩)] W fun e w' => e = .returned (.int .i64 code) ∧ (code = 0 → J w') ∧ Chg (fun b => S b ∧ b < w.heap.size ∨ W.heap.size ≤ b) W w')
    (hJ : ∀ a b, Chg (fun x => x = w.heap.size) a b → J a → J b) :
    Calls Try.prog 71 #[.pointer (some ⟨p, 0, none⟩), .pointer (some ⟨bo, oi, none⟩)] w fun e w' => (code ≠ 0 → e = .returned (.tuple #[.slice none 0 0, .int .i64 code])) ∧ (code = 0 → ∃ v, e = .returned (.tuple #[v, .int .i64 0]) ∧ Evs w' (New w.heap.size w'.heap.size) v [] ∧ J w') ∧ Chg (fun b => S b ∧ b < w.heap.size) w w' := by
  obtain ⟨o0, o1, o2, o3, -, -, o6, -⟩ := hO
  dsimp only at o0 o1 o2 o3 o6
  have hbl := World.block_lt_of_cell? _ _ o0
  have O0 := Lib.hid o0
  have O1 := Lib.hid o1
  have O2 := Lib.hid o2
  have O3 := Lib.hid o3
  have O6 := Lib.hid o6
  have HB := Lib.hid hB
  have HL := Lib.hid hL
  have HD := Lib.hid hD
  have HJ := Lib.hid hJ
  have HBB := Lib.hid hb
  have HV := Lib.hid hv
  have HZ := Lib.hid hz
  clear hB hL hD hJ hb hv o1 o6 hz
  go_enter Try.func71, Try.ntmps71
  go_wp2_with fail
  refine (HB.out _ (by repeat (first | exact Chg.refl _ _ | apply Chg.drew | apply Chg.drewN | refine Chg.alloc ?_ _))).mono ?_
  rintro e w1 ⟨rfl, g1⟩
  have U1 := Lib.hid (show Up w w1 from Chg.trans (by repeat (first | exact Chg.refl _ _ | apply Chg.drew | apply Chg.drewN | refine Chg.alloc ?_ _)) g1)
  have C1 : Hid (∃ OB, OB = w.heap.size) := Lib.hid ⟨_, rfl⟩
  replace o0 := Chg.cell U1.out O0.out id
  replace o2 := Chg.cell U1.out O2.out id
  replace o3 := Chg.cell U1.out O3.out id
  have hsz1 := g1.size
  have OE := Lib.hid (show OwnEvs w1 w.heap.size (.slice (some ⟨w.heap.size, 0, none⟩) 0 0) [] from OwnEvs.up (OwnEvs.made w _ (Nat.le_refl _)) g1)
  clear g1
  go_wp2_with fail
  refine (HL.out _ U1.out).mono ?_
  rintro e w2 ⟨⟨A2, c2, rfl⟩, g2⟩
  have U2 := Lib.hid (show Up w w2 from Chg.trans U1.out g2)
  have hsz2 := g2.size
  replace OE := Lib.hid (OE.out.up g2)
  clear g2
  replace o0 := Chg.cell U2.out O0.out id
  replace o2 := Chg.cell U2.out O2.out id
  replace o3 := Chg.cell U2.out O3.out id
  have HZ2 := Lib.hid (show w.heap.size < w2.heap.size by simp at hsz1; omega)
  clear hsz1 hsz2 C1
  go_wp2_with fail
  refine (HD.out _ U2.out HZ2.out).mono ?_
  rintro e w3 ⟨rfl, j3, g3⟩
  have J3 := Lib.hid j3
  have C3 := Lib.hid (show Chg (fun b => S b ∧ b < w.heap.size) w w3 from chg_down U2.out g3)
  replace OE := Lib.hid (OE.out.kept g3 (fun g hg h => by have h1 : w.heap.size = g := (by simpa [Value.ownBlock] using hg); have h2 := HZ2.out; rcases h with ⟨-, h⟩ | h <;> omega))
  replace o0 := Chg.cell C3.out O0.out (fun h => HBB.out h.1)
  have o1 := Chg.cell C3.out O1.out (fun h => HBB.out h.1)
  replace o2 := Chg.cell C3.out O2.out (fun h => HBB.out h.1)
  have o6 := Chg.cell C3.out O6.out (fun h => HBB.out h.1)
  have HZ3 := Lib.hid (show w.heap.size < w3.heap.size by have h1 := HZ2.out; have h2 := g3.size; omega)
  clear j3 g3 o3
  by_cases hc : code = 0
  case neg =>
    have hc2 : (code == 0) = false := by simpa using hc
    go_wp2
    go_ret2
    exact ⟨fun _ => rfl, fun h => absurd h hc, C3.out⟩
  case pos =>
    obtain ⟨rfl⟩ : code = 0 := hc
    have JJ := J3.out rfl
    go_wp2_with fail
    have P0 := Lib.hid o0
    have P1 := Lib.hid o1
    have P2 := Lib.hid o2
    have P6 := Lib.hid o6
    go_cut [10] (fun y wx => y = .pointer (some ⟨w3.heap.size, 0, none⟩) ∧ Hid (∀ t (h : t < 6), CellU wx ⟨w3.heap.size, t, none⟩ ([Value.int .i64 0, .int .i64 z, .int .i64 0, .int .i64 fb, .int .i64 car, .int .i64 d][t])) ∧ Hid (Up w3 wx))
    case first =>
      have UG := Lib.hid (Chg.refl Nowhere w3)
      refine wp_region_noPanic ?_
      go_region_held3 (fun w' => w'.cell? ⟨bo, oi, none⟩ = some (.int .i64 9) ∧ w'.cell? ⟨bo, oi + 1, none⟩ = some (.int .i64 d) ∧ w'.cell? ⟨bo, oi + 2, none⟩ = some (.int .i64 fb) ∧ w'.cell? ⟨bo, oi + 6, none⟩ = some (.int .i64 car)) (exact ⟨Chg.cell (show Up w3 _ from by repeat (first | (with_reducible exact UG.out) | (with_reducible apply Chg.drew) | (with_reducible refine Chg.alloc ?_ _) | ((with_reducible refine Chg.setCell ?_ (.inr ?_) _); rotate_left; (focus (first | (simp; done) | omega | (dsimp only; omega) | (dsimp only; simp; omega)))))) P0.out id, Chg.cell (show Up w3 _ from by repeat (first | (with_reducible exact UG.out) | (with_reducible apply Chg.drew) | (with_reducible refine Chg.alloc ?_ _) | ((with_reducible refine Chg.setCell ?_ (.inr ?_) _); rotate_left; (focus (first | (simp; done) | omega | (dsimp only; omega) | (dsimp only; simp; omega)))))) P1.out id, Chg.cell (show Up w3 _ from by repeat (first | (with_reducible exact UG.out) | (with_reducible apply Chg.drew) | (with_reducible refine Chg.alloc ?_ _) | ((with_reducible refine Chg.setCell ?_ (.inr ?_) _); rotate_left; (focus (first | (simp; done) | omega | (dsimp only; omega) | (dsimp only; simp; omega)))))) P2.out id, Chg.cell (show Up w3 _ from by repeat (first | (with_reducible exact UG.out) | (with_reducible apply Chg.drew) | (with_reducible refine Chg.alloc ?_ _) | ((with_reducible refine Chg.setCell ?_ (.inr ?_) _); rotate_left; (focus (first | (simp; done) | omega | (dsimp only; omega) | (dsimp only; simp; omega)))))) P6.out id⟩) (skip)
      all_goals (refine NoPanic.normal ?_; go_wp2_with fail; go_meet)
      all_goals (refine ⟨rfl, Lib.hid ?_, Lib.hid ?_⟩)
      all_goals (first | exact box6_at _ _ _ _ _ _ _ | exact (by repeat (first | exact Chg.refl _ _ | apply Chg.drew | apply Chg.drewN | refine Chg.alloc ?_ _)))
    case rest =>
      obtain ⟨rfl, hcx, hux⟩ := hcut
      obtain ⟨g, hg⟩ : ∃ g, g = w3.heap.size := ⟨_, rfl⟩
      rw [← hg] at hcx
      try rw [← hg]
      have CX := Lib.hid (Chg.trans C3.out (Chg.of_up hux.out))
      have J3 := Lib.hid JJ
      have UX := Lib.hid hux.out
      have HGG := Lib.hid hg
      have OX := Lib.hid (OE.out.up hux.out)
      have HG : Hid (g < wc.heap.size ∧ w.heap.size < g) := Lib.hid ⟨(hcx.out 0 (by omega)).lt, by rw [hg]; exact HZ3.out⟩
      obtain ⟨c0, f0⟩ := hcx.out 0 (by omega)
      obtain ⟨c1, f1⟩ := hcx.out 1 (by omega)
      obtain ⟨c2, f2⟩ := hcx.out 2 (by omega)
      obtain ⟨c3, f3⟩ := hcx.out 3 (by omega)
      obtain ⟨c4, f4⟩ := hcx.out 4 (by omega)
      obtain ⟨c5, f5⟩ := hcx.out 5 (by omega)
      simp only [List.getElem_cons_zero, List.getElem_cons_succ] at c0 c1 c2 c3 c4 c5
      replace o0 := Chg.cell CX.out O0.out (fun h => HBB.out h.1)
      replace o2 := Chg.cell CX.out O2.out (fun h => HBB.out h.1)
      clear hg hcx hux JJ OE HZ3 P0 P1 P2 P6 o1 o6 HD
      go_wp2
      go_ret2
      exact ⟨⟨_, rfl, OX.out.rd, HJ.out _ _ (Chg.of_up UX.out) J3.out⟩, CX.out⟩
end Go.Proofs.Ytplabnjdhkmmkaa
