/- NextSaving and ApplySaving on both sides. No condition but room. -/
import Derived.Test.YtiiodfcbpmkodaaMachM
import Derived.Test.YtiiodfcbpmkodaaMZ3
import Derived.Test.YtiiodfcbpmkodaaRec
import Derived.StillTailTactics
import Derived.Laws.AppendOwnNone
import Derived.Test.YtiiodfcbpmkodaaOps
import Derived.Test.YtiiodfcbpmkodaaOwnO
import Derived.Test.YtiiodfcbpmkodaaSelf
import Derived.Lib.AppendZerosOnto
import Derived.Lib.SliceRun
import Derived.Test.YtiiodfcbpmkodaaUpR
set_option linter.unusedSimpArgs false
set_option linter.unusedVariables false
set_option maxRecDepth 100000
set_option maxHeartbeats 4000000
namespace Go.Proofs.Ytiiodfcbpmkodaa
def cutN (r : Int) : Nat := if r = 4 ∨ r = 5 then 2 else 1
def cutM (ops : List OpM) (r : Int) (i : Nat) : List OpM := ops.take i ++ ops.drop (i + cutN r)
end Go.Proofs.Ytiiodfcbpmkodaa
namespace Go.Proofs.Ytiiodfcbpmkodaa
open Go.ChangeShapes Go.WideShapes Go.ChangeAt Go.RowKit
attribute [local go_sem ↓] Go.wp_at_zero Go.wp_at_succ
end Go.Proofs.Ytiiodfcbpmkodaa
namespace Go.Proofs.Ytiiodfcbpmkodaa
open Go.ChangeShapes Go.WideShapes Go.ChangeAt Go.RowKit
structure SavM where
  rule : Int
  idx : Int
def SavM.cells (x : SavM) : List Value := [.int .i64 x.rule, .int .i64 x.idx]
def SavM.ok (x : SavM) : Prop := I64 x.rule ∧ I64 x.idx
theorem SavM.cells_length (x : SavM) : x.cells.length = 2 := rfl
abbrev SavM.val (x : SavM) : Value := .agg #[.int .i64 x.rule, .int .i64 x.idx]
/-- a slice that reads as the list xs -/
def Savs (w : World) (S : Nat → Prop) (v : Value) (xs : List SavM) : Prop := Raw w S 2 v xs.length (xs.flatMap SavM.cells) ∧ ∀ x ∈ xs, x.ok
section
variable {S T : Nat → Prop} {w w' : World} {v : Value} {xs : List SavM}
theorem Savs.keep (h : Savs w S v xs) (g : Chg T w w') (hd : ∀ b, b < w.heap.size → S b → ¬ T b) : Savs w' S v xs := ⟨h.1.keep g hd, h.2⟩
theorem Savs.up (h : Savs w S v xs) (g : Up w w') : Savs w' S v xs := ⟨h.1.up g, h.2⟩
theorem Savs.mono (h : Savs w S v xs) (hs : ∀ b, b < w.heap.size → S b → T b) : Savs w T v xs := ⟨h.1.mono hs, h.2⟩
theorem Savs.shape (h : Savs w S v xs) : ∃ A c, v = .slice A xs.length c ∧ xs.length ≤ c ∧ c ≤ 9223372036854775807 ∧ (A = none → c = 0) := h.1.shape
theorem Savs.nil (w : World) (S : Nat → Prop) (c : Nat) (A : Option Addr) (hc : c ≤ 9223372036854775807) (hA : A = none → c = 0 := by simp) : Savs w S (.slice A 0 c) [] := ⟨Raw.nil w S 2 c A hc hA, by simp⟩
theorem Savs.at_ (h : Savs w S v xs) {i : Nat} (hi : i < xs.length) : ∃ b o c, v = .slice (some ⟨b, o, none⟩) xs.length c ∧ S b ∧ b < w.heap.size ∧
    ∀ j u, (xs[i].cells)[j]? = some u → w.cell? ⟨b, o + i * 2 + j, none⟩ = some u ∧ w.frozen? ⟨b, o + i * 2 + j, none⟩ = false := Raw.at_ SavM.cells_length h.1 hi
end
def MSavs (w : World) (S : Nat → Prop) (v : Value) (xs : List SavM) (k : Int) : Prop := Raw w S 2 v xs.length (markCells k (xs.length * 2))
theorem MSavs.keep {S T : Nat → Prop} {w w' : World} {v : Value} {xs : List SavM} {k : Int} (h : MSavs w S v xs k) (g : Chg T w w') (hd : ∀ b, b < w.heap.size → S b → ¬ T b) : MSavs w' S v xs k := Raw.keep h g hd
theorem MSavs.up {S : Nat → Prop} {w w' : World} {v : Value} {xs : List SavM} {k : Int} (h : MSavs w S v xs k) (g : Up w w') : MSavs w' S v xs k := Raw.up h g
/-- a slice of the call's own, from block base on -/
def OwnSavs (w : World) (base : Nat) (v : Value) (xs : List SavM) : Prop :=
  w.ownsRow base 34 2 v xs.length (xs.flatMap SavM.cells) ∧ ∀ x ∈ xs, x.ok
theorem OwnSavs.nil (w : World) (base : Nat) : OwnSavs w base (.slice none 0 0) [] := ⟨World.ownsRow_nil _ _ _ _, by simp⟩
theorem OwnSavs.made (w : World) (base : Nat) (hb : base ≤ w.heap.size) : OwnSavs (w.alloc (.cells #[] 34)) base (.slice (some ⟨w.heap.size, 0, none⟩) 0 0) [] :=
  ⟨World.ownsRow_made w _ 0 hb (by unfold Go.maxLen; omega) (by simp), by simp⟩
theorem OwnSavs.alloc {w : World} {base : Nat} {v : Value} {xs : List SavM} (h : OwnSavs w base v xs) (o : Obj) : OwnSavs (w.alloc o) base v xs := ⟨h.1.alloc o, h.2⟩
theorem OwnSavs.kept {w w' : World} {base : Nat} {v : Value} {xs : List SavM} {S : Nat → Prop} (h : OwnSavs w base v xs) (k : Chg S w w') (hS : ∀ g, v.ownBlock = some g → ¬ S g) : OwnSavs w' base v xs := by
  refine ⟨⟨h.1.1, ?_⟩, h.2⟩
  rcases h.1.2 with h2 | ⟨g, cap, cur, rfl, hg, hh, r⟩
  · exact Or.inl h2
  · exact Or.inr ⟨g, cap, cur, rfl, hg, (k.block g (Array.getElem?_eq_some_iff.1 hh).1 (hS g rfl)).trans hh, r⟩
theorem OwnSavs.up {w w' : World} {base : Nat} {v : Value} {xs : List SavM} (h : OwnSavs w base v xs) (k : Up w w') : OwnSavs w' base v xs := h.kept k fun _ _ h => h
theorem OwnSavs.rd {w : World} {base : Nat} {v : Value} {xs : List SavM} (h : OwnSavs w base v xs) : Savs w (New base w.heap.size) v xs := ⟨Raw.of_own h.1, h.2⟩
theorem OwnSavs.lt {w : World} {base : Nat} {v : Value} {xs : List SavM} (h : OwnSavs w base v xs) {g : Nat} (hg : v.ownBlock = some g) : base ≤ g ∧ g < w.heap.size := h.1.lt g hg
end Go.Proofs.Ytiiodfcbpmkodaa
namespace Go.Proofs.Ytiiodfcbpmkodaa
theorem rule_next {m : MachM} {o n : OpM} (h : ruleM m o n = 4 ∨ ruleM m o n = 5) : n.kind ≠ 0 := by
  intro h0
  unfold ruleM at h
  have e4 : ¬ n.kind = 4 := by omega
  have e9 : ¬ n.kind = 9 := by omega
  have e7 : ¬ n.kind = 7 := by omega
  simp only [e4, e9, e7, false_and, and_false, if_false] at h
  repeat (split at h)
  all_goals (first | omega | (rcases h with h | h <;> omega))
/-- the operations that a rule takes are all there -/
theorem rule_room {m : MachM} {ops : List OpM} {i : Nat} (hi : i < ops.length) (r : Int) (hr : (rulesM m ops).getD i 0 = r) : i + cutN r ≤ ops.length := by
  unfold cutN
  by_cases h : r = 4 ∨ r = 5
  · rw [if_pos h]
    by_cases h2 : i + 1 < ops.length
    · omega
    · exfalso
      rw [rules_getD m ops i hi] at hr
      rw [← hr] at h
      have := rule_next h
      rw [List.getD_eq_getElem?_getD, List.getElem?_eq_none (by omega)] at this
      exact this rfl
  · rw [if_neg h]; omega
/-- ApplySaving: code, what is left -/
def apC (n : Int) (xs : List OpM) (r k : Int) : Int := if optCode n xs = 0 then (if inB k 0 ((xs.length : Int) - 1) = true then (if r = 0 then 3 else if (rulesM (newM n) xs).getD k.toNat 0 = r then 0 else 3) else 3) else optCode n xs
def apL (n : Int) (xs : List OpM) (r k : Int) : List OpM := if apC n xs r k = 0 then cutM xs r k.toNat else []
end Go.Proofs.Ytiiodfcbpmkodaa
namespace Go.Proofs.Ytiiodfcbpmkodaa
open Go.ChangeShapes Go.WideShapes Go.ChangeAt Go.RowKit
theorem Ops.part {w : World} {S : Nat → Prop} {A A' : Option Addr} {c c' k : Nat} {xs : List OpM} (h : Ops w S (.slice A xs.length c) xs) (i : Nat) (hik : i + k ≤ xs.length) (hc : k ≤ c') (hc2 : c' ≤ 9223372036854775807)
    (hA : ∀ b o, A = some ⟨b, o, none⟩ → 0 < k → A' = some ⟨b, o + i * 8, none⟩) (hn : A' = none → c' = 0) : Ops w S (.slice A' k c') ((xs.drop i).take k) := by
  obtain ⟨⟨hl, A0, c0, he, h1, h2, h3, h4⟩, hok⟩ := h
  obtain ⟨rfl, rfl⟩ : A = A0 ∧ c = c0 := by simpa using he
  have hlen : ((xs.drop i).take k).length = k := by rw [List.length_take, List.length_drop]; omega
  refine ⟨⟨flat_length OpM.cells 8 (fun _ => rfl) _, A', c', by rw [hlen], by rw [hlen]; exact hc, hc2, fun hp => ?_, hn⟩, fun x hx => hok x (List.mem_of_mem_drop (List.mem_of_mem_take hx))⟩
  rw [hlen] at hp
  obtain ⟨b, o, hA0, hS, hb, hcell⟩ := h3 (by omega)
  refine ⟨b, o + i * 8, hA b o hA0 hp, hS, hb, fun t ht => ?_⟩
  have htl : t < k * 8 := by rw [flat_length OpM.cells 8 (fun _ => rfl), hlen] at ht; exact ht
  have hq : t / 8 < k := by omega
  have hj : t % 8 < 8 := by omega
  have hti : (i + t / 8) * 8 + t % 8 = i * 8 + t := by omega
  have hbig : (i + t / 8) * 8 + t % 8 < (xs.flatMap OpM.cells).length := by rw [flat_length OpM.cells 8 (fun _ => rfl)]; omega
  have e1 := flat_get OpM.cells 8 (fun _ => rfl) xs (i + t / 8) (by omega) (t % 8) hj
  have e2 := flat_get OpM.cells 8 (fun _ => rfl) ((xs.drop i).take k) (t / 8) (by omega) (t % 8) hj
  have e3 : ((xs.drop i).take k)[t / 8]'(by omega) = xs[i + t / 8]'(by omega) := by simp
  rw [show t / 8 * 8 + t % 8 = t by omega, e3, ← e1, List.getElem?_eq_getElem ht, List.getElem?_eq_getElem hbig] at e2
  have e4 := hcell _ hbig
  injection e2 with e2
  rw [← e2, hti] at e4
  rwa [← Nat.add_assoc] at e4
end Go.Proofs.Ytiiodfcbpmkodaa
namespace Go.Proofs.Ytiiodfcbpmkodaa
open Go.ChangeShapes Go.WideShapes Go.ChangeAt Go.RowKit
theorem growOps_nil (w : World) (n : Nat) (hn : n ≤ 1073741824) :
    Calls Try.prog 122 #[.slice none 0 0, .int .i64 n] w fun e w' => ∃ v, e = .returned v ∧ OwnO w' w.heap.size v [] ∧ Up w w' := by
  have h1 : ¬ ((n : Int) < 0) := by omega
  by_cases h0 : 0 < n
  · obtain ⟨i0, hi, hz0, hz1, hz2⟩ := info_parts infoOp
    have hrz : ∀ ty, (Builtin.append_ #[26, 3] ty #[.slice none 0 0, .int .i64 (n : Int)]).run Try.prog w =
        .ok (.slice (some ⟨w.heap.size, 0, none⟩) n (grownCap w n 0 72))
          (w.drew.alloc (.cells (Builtin.zeroCells (OpM.mk 0 0 0 0 0 0 0 0).val.cells n ++ Builtin.zeroCells (OpM.mk 0 0 0 0 0 0 0 0).val.cells (grownCap w n 0 72 - n)) 72)) := fun ty => by
      have h := Lib.run_append_grow_zeros (P := Try.prog) w 26 3 ty 72 i0 _ .i64 .i64 Try.underlying26 Try.underlying3 hi hz0 none 0 0 [] (run_firstCells_none w.drew i0.size 0 0 0) n h0 (by omega) (by omega) (by omega) (by rw [hz2]; omega)
        (by rw [hz2]; exact growslice_fits (by omega) (by omega))
      simpa using h
    have hGn : n ≤ grownCap w n 0 72 := grownCap_ge w _ _ _
    have hG63 := grownCap_le_maxLen w n 0 72 (by unfold Go.maxLen; omega)
    obtain ⟨G, hG⟩ : ∃ G, G = grownCap w n 0 72 := ⟨_, rfl⟩
    rw [← hG] at hrz hGn hG63
    clear hG hi hz0 hz1 hz2
    unfold Go.maxLen at hG63
    go_enter Try.func122, Try.ntmps122
    go_wp2_with (at_builtin; refine Lib.wpList_append_run _ rfl _ _ _ _ rfl _ _ rfl rfl _ _ (hrz _) ?_)
    go_ret
    refine ⟨_, rfl, ⟨⟨by simp, .inr ⟨w.heap.size, G, _, rfl, Nat.le_refl _, heap_alloc_new w _, Nat.zero_le _, by unfold Go.maxLen; omega, ?_, by simp⟩⟩, by simp⟩, ((Chg.refl _ _).alloc _).drew⟩
    simp [Builtin.zeroCells]
    omega
  · obtain rfl : n = 0 := by omega
    go_enter Try.func122, Try.ntmps122
    go_wp2
    go_ret
    exact ⟨_, rfl, OwnO.nil _ _, Chg.refl _ _⟩
theorem concatOps_any (w : World) (S1 S : Nat → Prop) (arg : Value) (vs : List Value) (yss : List (List OpM)) (hvl : vs.length = yss.length) (harg : Raw w S1 1 arg yss.length vs)
    (hys : ∀ (i : Nat) (u : Value) (y : List OpM), vs[i]? = some u → yss[i]? = some y → Ops w S u y) (hsum : sumLen yss yss.length ≤ 1073741824) :
    Calls Try.prog 88 #[arg] w fun e w' => ∃ v, e = .returned v ∧ Ops w' (New w.heap.size w'.heap.size) v yss.flatten ∧ Up w w' := by
  obtain ⟨A, c, rfl, hlc, hcm, -⟩ := harg.shape
  have HA := Lib.hid harg
  have HY := Lib.hid hys
  have HM := Lib.hid hsum
  have HV := Lib.hid hvl
  clear harg hys hsum hvl
  go_enter Try.func88, Try.ntmps88
  go_wp2
  go_loop [3, 5, 11] (fun q _ i => ∃ j : Nat, j ≤ yss.length ∧ i = .int .i64 j ∧ q = .int .i64 (sumLen yss j)) (fun _ _ i => yss.length - (intOf i).toNat)
  case atStart => exact ⟨0, by omega, rfl, by simp [sumLen]⟩
  case round =>
    obtain ⟨j, hj, rfl, rfl⟩ := hrel
    by_cases hlt : j < yss.length
    · obtain ⟨h0, A', c', he, -, -, hr, -⟩ := HA.out
      obtain ⟨b, o, hAb, -, -, hc⟩ := hr (by omega)
      obtain ⟨rfl, rfl⟩ : A = A' ∧ c = c' := by simpa using he
      subst hAb
      have hcj := (hc j (by rw [HV.out]; exact hlt)).1
      obtain ⟨A1, c1, hv1, hl1, hc1, -⟩ := (HY.out j _ _ (List.getElem?_eq_getElem (by rw [HV.out]; exact hlt)) (List.getElem?_eq_getElem hlt)).shape
      rw [hv1] at hcj
      have hs1 := sumLen_succ yss j hlt
      have hs2 := sumLen_le yss (j + 1)
      have hs3 : (sumLen yss j : Int) + yss[j].length ≤ 1073741824 := by have := HM.out; omega
      have HS1 := Lib.hid hs1
      have hng : ¬ ((sumLen yss j : Int) + yss[j].length < 0) := by omega
      clear hc hr he h0 hv1 hs1 hs2
      go_wp2
      go_round
      case rel => exact ⟨j + 1, by omega, by go_num, by rw [HS1.out]; go_num⟩
      case measure => simp [intOf]; omega
    · obtain rfl : j = yss.length := by omega
      go_wp2_with fail
      refine (growOps_nil _ _ HM.out).mono ?_
      rintro e w1 ⟨v, rfl, k1, g1⟩
      have K1 := Lib.hid k1
      have G1 := Lib.hid g1
      clear k1 g1
      go_wp2
      go_loopw [6, 8, 27] (fun v _ i wr => ∃ j : Nat, j ≤ yss.length ∧ i = .int .i64 j ∧ Hid (OwnO wr w.heap.size v (yss.take j).flatten) ∧ Hid (Up w wr)) (fun _ _ i _ => yss.length - (intOf i).toNat)
      case atStart => exact ⟨0, by omega, rfl, by simpa [Hid] using K1.out, G1.out⟩
      case round =>
        obtain ⟨j, hj2, rfl, ho, hg⟩ := hrel
        by_cases hlt2 : j < yss.length
        · obtain ⟨h0, A', c', he, -, -, hr, -⟩ := HA.out.up hg.out
          obtain ⟨b, o, hAb, -, -, hc⟩ := hr (by omega)
          obtain ⟨rfl, rfl⟩ : A = A' ∧ c = c' := by simpa using he
          subst hAb
          have hcj := (hc j (by rw [HV.out]; exact hlt2)).1
          have hsrc := (HY.out j _ _ (List.getElem?_eq_getElem (by rw [HV.out]; exact hlt2)) (List.getElem?_eq_getElem hlt2)).up hg.out
          obtain ⟨A1, c1, hv1, hl1, hc1, -⟩ := hsrc.shape
          rw [hv1] at hcj hsrc
          have HSR := Lib.hid hsrc
          have HL := Lib.hid (show (yss.take j).flatten.length + yss[j].length ≤ 1099511627776 by
            rw [flat_take_length]
            have h1 := sumLen_succ yss j hlt2
            have h2 := sumLen_le yss (j + 1)
            have := HM.out
            omega)
          have hsz := hg.out.size
          clear hc hr he h0 hv1 hsrc
          go_wp2_with (first | (at_builtin; refine wp_append_ops rfl _ _ rfl w.heap.size _ (yss.take j).flatten rfl ho.out S _ yss[j] rfl HSR.out HL.out ?_ ?_; (first | omega | (simp; omega)); intro v' w3 ho1 _ hg1; have HO := Lib.hid ho1; have HG := Lib.hid hg1; clear ho1 hg1))
          go_roundw
          case rel => exact ⟨j + 1, by omega, by go_num, by rw [flat_take _ _ hlt2]; exact HO.out, Chg.new hg.out HG.out (fun i hi => by omega)⟩
          case measure => simp [intOf]; omega
        · obtain rfl : j = yss.length := by omega
          go_wp2
          go_ret
          refine ⟨_, rfl, ?_, hg.out⟩
          have := ho.out.ops
          rwa [List.take_length] at this
end Go.Proofs.Ytiiodfcbpmkodaa
set_option maxRecDepth 100000
set_option maxHeartbeats 1000000
namespace Go.Proofs.Ytiiodfcbpmkodaa
open Go.ChangeShapes Go.WideShapes Go.ChangeAt Go.RowKit
def takN (r : Int) : Nat := if r = 4 ∨ r = 5 then 2 else 1
theorem Ops.takes {w : World} {S : Nat → Prop} {b o c : Nat} {xs : List OpM} (h : Ops w S (.slice (some ⟨b, o, none⟩) xs.length c) xs) {k c2 : Nat} (hk : k ≤ xs.length) (hc2 : c2 = c) : Ops w S (.slice (some ⟨b, o, none⟩) k c2) (xs.take k) := by
  subst hc2
  obtain ⟨A, c', he, h1, h2, -⟩ := h.1.shape
  obtain ⟨rfl, rfl⟩ : some ⟨b, o, none⟩ = A ∧ c2 = c' := by simpa using he
  have := h.part (A' := some ⟨b, o, none⟩) (c' := c2) 0 (k := k) (by omega) (by omega) h2 (fun b' o' e _ => by simpa using e) (by simp)
  simpa using this
theorem Ops.drops {w : World} {S : Nat → Prop} {b o c : Nat} {xs : List OpM} (h : Ops w S (.slice (some ⟨b, o, none⟩) xs.length c) xs) {k c' : Nat} (hk : k ≤ xs.length) (hc' : c' = c - k) {A : Option Addr} (hA : k < xs.length → A = some ⟨b, o + k * 8, none⟩) (hA2 : A ≠ none) : Ops w S (.slice A (xs.length - k) c') (xs.drop k) := by
  subst hc'
  obtain ⟨A', c', he, h1, h2, -⟩ := h.1.shape
  obtain ⟨rfl, rfl⟩ : some ⟨b, o, none⟩ = A' ∧ c = c' := by simpa using he
  have := h.part (A' := A) (c' := c - k) k (k := xs.length - k) (by omega) (by omega) (by omega) (fun b' o' e hp => by (have e2 : b = b' ∧ o = o' := by simpa using e); rw [← e2.1, ← e2.2]; exact hA (by omega)) (fun e => absurd e hA2)
  rwa [List.take_of_length_le (by simp)] at this
theorem without_any (w : World) (S : Nat → Prop) (v : Value) (xs : List OpM) (h : Ops w S v xs) (r : Int) (k : Nat) (hk : k + takN r ≤ xs.length) (hlen : xs.length ≤ 1000000) :
    Calls Try.prog 48 #[v, .agg #[.int .i64 r, .int .i64 k]] w fun e w' => ∃ v', e = .returned v' ∧ Ops w' (New w.heap.size w'.heap.size) v' (xs.take k ++ xs.drop (k + takN r)) ∧ Up w w' := by
  obtain ⟨A, c, rfl, hlc, hcm, -⟩ := h.1.shape
  have hn1 : 1 ≤ takN r := by unfold takN; split <;> omega
  obtain ⟨b, o, rfl⟩ : ∃ b o, A = some ⟨b, o, none⟩ := by
    obtain ⟨b, o, c', he, -⟩ := h.at_ (i := 0) (by omega)
    exact ⟨b, o, by injection he⟩
  have H := Lib.hid (h.up ((Chg.refl Nowhere w).alloc (.cells #[.int .i64 r, .int .i64 k] 34)))
  have c0 : (w.alloc (.cells #[.int .i64 r, .int .i64 k] 34)).cell? ⟨w.heap.size, 0, none⟩ = some (.int .i64 r) := cell_new _ _ _ _
  have c1 : (w.alloc (.cells #[.int .i64 r, .int .i64 k] 34)).cell? ⟨w.heap.size, 1, none⟩ = some (.int .i64 k) := cell_new _ _ _ _
  clear h
  by_cases h4 : r = 4
  · subst h4
    have hn : takN 4 = 2 := rfl
    rw [hn] at hk ⊢
    clear hn hn1
    have y1 : IntKind.i64.wrap ((k : Int) + 2) = (k : Int) + 2 := IntWalk.i64_in _ (by omega)
    have y2 : (k : Int) ≤ c := by omega
    have y3 : (k : Int) + 2 ≤ xs.length := by omega
    have y4 : 0 ≤ (k : Int) + 2 := by omega
    have y5 : ((k : Int) + 2).toNat = k + 2 := by omega
    go_enter Try.func48, Try.ntmps48
    go_wp2
    have G0 := Lib.hid ((Chg.refl Nowhere w).alloc (.cells #[.int .i64 4, .int .i64 k] 34))
    have hz0 := Lib.hid (show (w.alloc (.cells #[.int .i64 4, .int .i64 k] 34)).heap.size = w.heap.size + 1 by simp)
    generalize (w.alloc (.cells #[.int .i64 4, .int .i64 k] 34)) = w1 at *
    go_still_tail 10, (by kernel_rfl)
    go_wp2_with fail
    all_goals
      refine (concatOps_any _ (fun _ => True) (fun _ => True) _ [_, _] [xs.take k, xs.drop (k + 2)] rfl (Raw.up (Raw.of_block (heap_new_at rfl) rfl trivial rfl (by simp) (by omega)) (Chg.drew (Chg.refl _ _))) ?_ (by simp [sumLen]; omega)).mono ?_
      · intro i u y hu hy
        match i, hu, hy with
        | 0, hu, hy => injection hu with hu; injection hy with hy; subst hu hy; exact ((H.out.takes (k := k) (by omega) (by omega)).up (Chg.drew (Chg.alloc (Chg.refl _ _) _))).mono fun _ _ _ => trivial
        | 1, hu, hy => injection hu with hu; injection hy with hy; subst hu hy; exact ((H.out.drops (k := k + 2) (by omega) (by omega) (fun _ => by first | rfl | omega) (by simp)).up (Chg.drew (Chg.alloc (Chg.refl _ _) _))).mono fun _ _ _ => trivial
        | i + 2, hu, hy => simp at hu
      rintro e w4 ⟨v4, rfl, k4, g4⟩
      have hz1 := hz0.out
      have K4 := Lib.hid k4
      have G4 := Lib.hid g4
      clear k4 g4 hz0
      go_wp2
      go_ret
      refine ⟨_, rfl, ?_, Chg.trans (Chg.drew (Chg.alloc G0.out _)) G4.out⟩
      have h5 := K4.out.mono (T := New w.heap.size w4.heap.size) (fun b _ hb => ⟨by have := hb.1; simp at this; omega, hb.2⟩)
      simpa using h5
  by_cases h5 : r = 5
  · subst h5
    have hn : takN 5 = 2 := rfl
    rw [hn] at hk ⊢
    clear hn hn1
    have y1 : IntKind.i64.wrap ((k : Int) + 2) = (k : Int) + 2 := IntWalk.i64_in _ (by omega)
    have y2 : (k : Int) ≤ c := by omega
    have y3 : (k : Int) + 2 ≤ xs.length := by omega
    have y4 : 0 ≤ (k : Int) + 2 := by omega
    have y5 : ((k : Int) + 2).toNat = k + 2 := by omega
    go_enter Try.func48, Try.ntmps48
    go_wp2
    have G0 := Lib.hid ((Chg.refl Nowhere w).alloc (.cells #[.int .i64 5, .int .i64 k] 34))
    have hz0 := Lib.hid (show (w.alloc (.cells #[.int .i64 5, .int .i64 k] 34)).heap.size = w.heap.size + 1 by simp)
    generalize (w.alloc (.cells #[.int .i64 5, .int .i64 k] 34)) = w1 at *
    go_still_tail 10, (by kernel_rfl)
    go_wp2_with fail
    all_goals
      refine (concatOps_any _ (fun _ => True) (fun _ => True) _ [_, _] [xs.take k, xs.drop (k + 2)] rfl (Raw.up (Raw.of_block (heap_new_at rfl) rfl trivial rfl (by simp) (by omega)) (Chg.drew (Chg.refl _ _))) ?_ (by simp [sumLen]; omega)).mono ?_
      · intro i u y hu hy
        match i, hu, hy with
        | 0, hu, hy => injection hu with hu; injection hy with hy; subst hu hy; exact ((H.out.takes (k := k) (by omega) (by omega)).up (Chg.drew (Chg.alloc (Chg.refl _ _) _))).mono fun _ _ _ => trivial
        | 1, hu, hy => injection hu with hu; injection hy with hy; subst hu hy; exact ((H.out.drops (k := k + 2) (by omega) (by omega) (fun _ => by first | rfl | omega) (by simp)).up (Chg.drew (Chg.alloc (Chg.refl _ _) _))).mono fun _ _ _ => trivial
        | i + 2, hu, hy => simp at hu
      rintro e w4 ⟨v4, rfl, k4, g4⟩
      have hz1 := hz0.out
      have K4 := Lib.hid k4
      have G4 := Lib.hid g4
      clear k4 g4 hz0
      go_wp2
      go_ret
      refine ⟨_, rfl, ?_, Chg.trans (Chg.drew (Chg.alloc G0.out _)) G4.out⟩
      have h5 := K4.out.mono (T := New w.heap.size w4.heap.size) (fun b _ hb => ⟨by have := hb.1; simp at this; omega, hb.2⟩)
      simpa using h5
  have hn : takN r = 1 := by unfold takN; rw [if_neg (by omega)]
  have t4 : (r == 4) = false := by simpa using h4
  have t5 : (r == 5) = false := by simpa using h5
  rw [hn] at hk ⊢
  clear hn hn1
  have y1 : IntKind.i64.wrap ((k : Int) + 1) = (k : Int) + 1 := IntWalk.i64_in _ (by omega)
  have y2 : (k : Int) ≤ c := by omega
  have y3 : (k : Int) + 1 ≤ xs.length := by omega
  have y4 : 0 ≤ (k : Int) + 1 := by omega
  have y5 : ((k : Int) + 1).toNat = k + 1 := by omega
  go_enter Try.func48, Try.ntmps48
  go_wp2
  have G0 := Lib.hid ((Chg.refl Nowhere w).alloc (.cells #[.int .i64 r, .int .i64 k] 34))
  have hz0 := Lib.hid (show (w.alloc (.cells #[.int .i64 r, .int .i64 k] 34)).heap.size = w.heap.size + 1 by simp)
  generalize (w.alloc (.cells #[.int .i64 r, .int .i64 k] 34)) = w1 at *
  go_still_tail 10, (by kernel_rfl)
  go_wp2_with fail
  all_goals
    refine (concatOps_any _ (fun _ => True) (fun _ => True) _ [_, _] [xs.take k, xs.drop (k + 1)] rfl (Raw.up (Raw.of_block (heap_new_at rfl) rfl trivial rfl (by simp) (by omega)) (Chg.drew (Chg.refl _ _))) ?_ (by simp [sumLen]; omega)).mono ?_
    · intro i u y hu hy
      match i, hu, hy with
      | 0, hu, hy => injection hu with hu; injection hy with hy; subst hu hy; exact ((H.out.takes (k := k) (by omega) (by omega)).up (Chg.drew (Chg.alloc (Chg.refl _ _) _))).mono fun _ _ _ => trivial
      | 1, hu, hy => injection hu with hu; injection hy with hy; subst hu hy; exact ((H.out.drops (k := k + 1) (by omega) (by omega) (fun _ => by first | rfl | omega) (by simp)).up (Chg.drew (Chg.alloc (Chg.refl _ _) _))).mono fun _ _ _ => trivial
      | i + 2, hu, hy => simp at hu
    rintro e w4 ⟨v4, rfl, k4, g4⟩
    have hz1 := hz0.out
    have K4 := Lib.hid k4
    have G4 := Lib.hid g4
    clear k4 g4 hz0
    go_wp2
    go_ret
    refine ⟨_, rfl, ?_, Chg.trans (Chg.drew (Chg.alloc G0.out _)) G4.out⟩
    have h5 := K4.out.mono (T := New w.heap.size w4.heap.size) (fun b _ hb => ⟨by have := hb.1; simp at this; omega, hb.2⟩)
    simpa using h5
theorem l25Apply_any (w : World) (S : Nat → Prop) (hS : ∀ x, S x → x < w.heap.size) (v : Value) (xs : List OpM) (h : Ops w S v xs) (r : Int) (k : Nat) (hk : k + takN r ≤ xs.length) (hlen : xs.length ≤ 1000000) :
    Calls Try.prog 47 #[v, .agg #[.int .i64 r, .int .i64 k]] w fun e w' => ∃ v', e = .returned v' ∧ Ops w' (New w.heap.size w'.heap.size) v' (xs.take k ++ xs.drop (k + takN r)) ∧ Up w w' := by
  obtain ⟨A, c, rfl, hlc, hcm, -⟩ := h.1.shape
  have hn1 : 1 ≤ takN r := by unfold takN; split <;> omega
  obtain ⟨b, o, rfl⟩ : ∃ b o, A = some ⟨b, o, none⟩ := by
    obtain ⟨b, o, c', he, -⟩ := h.at_ (i := 0) (by omega)
    exact ⟨b, o, by injection he⟩
  have H := Lib.hid (h.up ((Chg.refl Nowhere w).alloc (.cells #[.int .i64 r, .int .i64 k] 34)))
  have c0 : (w.alloc (.cells #[.int .i64 r, .int .i64 k] 34)).cell? ⟨w.heap.size, 0, none⟩ = some (.int .i64 r) := cell_new _ _ _ _
  have c1 : (w.alloc (.cells #[.int .i64 r, .int .i64 k] 34)).cell? ⟨w.heap.size, 1, none⟩ = some (.int .i64 k) := cell_new _ _ _ _
  have HS := Lib.hid hS
  clear h hS
  by_cases h4 : r = 4
  · subst h4
    have hn : takN 4 = 2 := rfl
    rw [hn] at hk ⊢
    clear hn hn1
    have y1 : IntKind.i64.wrap ((k : Int) + 2) = (k : Int) + 2 := IntWalk.i64_in _ (by omega)
    have y2 : (k : Int) ≤ c := by omega
    have y3 : (k : Int) + 2 ≤ xs.length := by omega
    have y4 : 0 ≤ (k : Int) + 2 := by omega
    have y5 : ((k : Int) + 2).toNat = k + 2 := by omega
    go_enter Try.func47, Try.ntmps47
    have hz0 := Lib.hid (show (w.alloc (.cells #[.int .i64 4, .int .i64 k] 34)).heap.size = w.heap.size + 1 by simp)
    have c1' := Lib.hid c1
    have HT := Lib.hid (H.out.mono (T := fun x => x < w.heap.size) fun x _ hx => HS.out x hx)
    have HO0 := Lib.hid (show OwnO ((w.alloc (.cells #[.int .i64 4, .int .i64 k] 34)).alloc (.cells #[] 72)) (w.heap.size + 1) (.slice (some ⟨w.heap.size + 1, 0, none⟩) 0 0) [] by have h := OwnO.made (w.alloc (.cells #[.int .i64 4, .int .i64 k] 34)) (w.heap.size + 1) (by simp); rw [hz0.out] at h; exact h)
    have HB0 := Lib.hid (show w.heap.size + 1 ≤ ((w.alloc (.cells #[.int .i64 4, .int .i64 k] 34)).alloc (.cells #[] 72)).heap.size by simp)
    clear c0 c1
    go_wp2_with (first | (at_builtin; refine wp_append_ops rfl _ _ rfl (w.heap.size + 1) _ [] rfl HO0.out (fun x => x < w.heap.size) _ (xs.take k) rfl ((HT.out.takes (k := k) (by omega) rfl).up (Chg.alloc (Chg.refl _ _) _)) ?_ HB0.out ?_; (first | (simp; done) | (simp; omega)); intro v3 w3 ho3 _ hg3; have HO3 := Lib.hid ho3; have HG3 := Lib.hid (Chg.trans (Chg.of_up ((Chg.refl Nowhere (w.alloc (.cells #[.int .i64 4, .int .i64 k] 34))).alloc (.cells #[] 72))) hg3); have C1 := Chg.cell HG3.out c1'.out (by simp); have H3 := Lib.hid (HT.out.keep HG3.out (fun x _ hx h2 => by (have hx : x < w.heap.size := hx); (have h2 : w.heap.size + 1 ≤ x := h2); omega)); have hz3 := Lib.hid (Nat.le_trans (Nat.le_of_eq hz0.out.symm) HG3.out.size); clear ho3 hg3) | (at_builtin; refine wp_append_ops rfl _ _ rfl (w.heap.size + 1) _ (xs.take k) rfl HO3.out (fun x => x < w.heap.size) _ (xs.drop (k + 2)) rfl (H3.out.drops (k := k + 2) (by omega) (by omega) (fun _ => by first | rfl | (rw [if_neg (by omega)]) | omega) (by first | (simp; done) | (split <;> simp))) ?_ hz3.out ?_; (first | (simp; done) | (simp; omega)); intro v4 w4 ho4 _ hg4; have HO4 := Lib.hid ho4; have HG4 := Lib.hid (Chg.trans HG3.out hg4); clear ho4 hg4))
    all_goals
      go_ret
      exact ⟨_, rfl, HO4.out.ops.mono (fun b _ hb => ⟨by have := hb.1; omega, hb.2⟩), Chg.new ((Chg.refl Nowhere w).alloc _) HG4.out (fun i hi h2 => by have h2 : w.heap.size + 1 ≤ i := h2; omega)⟩
  by_cases h5 : r = 5
  · subst h5
    have hn : takN 5 = 2 := rfl
    rw [hn] at hk ⊢
    clear hn hn1
    have y1 : IntKind.i64.wrap ((k : Int) + 2) = (k : Int) + 2 := IntWalk.i64_in _ (by omega)
    have y2 : (k : Int) ≤ c := by omega
    have y3 : (k : Int) + 2 ≤ xs.length := by omega
    have y4 : 0 ≤ (k : Int) + 2 := by omega
    have y5 : ((k : Int) + 2).toNat = k + 2 := by omega
    go_enter Try.func47, Try.ntmps47
    have hz0 := Lib.hid (show (w.alloc (.cells #[.int .i64 5, .int .i64 k] 34)).heap.size = w.heap.size + 1 by simp)
    have c1' := Lib.hid c1
    have HT := Lib.hid (H.out.mono (T := fun x => x < w.heap.size) fun x _ hx => HS.out x hx)
    have HO0 := Lib.hid (show OwnO ((w.alloc (.cells #[.int .i64 5, .int .i64 k] 34)).alloc (.cells #[] 72)) (w.heap.size + 1) (.slice (some ⟨w.heap.size + 1, 0, none⟩) 0 0) [] by have h := OwnO.made (w.alloc (.cells #[.int .i64 5, .int .i64 k] 34)) (w.heap.size + 1) (by simp); rw [hz0.out] at h; exact h)
    have HB0 := Lib.hid (show w.heap.size + 1 ≤ ((w.alloc (.cells #[.int .i64 5, .int .i64 k] 34)).alloc (.cells #[] 72)).heap.size by simp)
    clear c0 c1
    go_wp2_with (first | (at_builtin; refine wp_append_ops rfl _ _ rfl (w.heap.size + 1) _ [] rfl HO0.out (fun x => x < w.heap.size) _ (xs.take k) rfl ((HT.out.takes (k := k) (by omega) rfl).up (Chg.alloc (Chg.refl _ _) _)) ?_ HB0.out ?_; (first | (simp; done) | (simp; omega)); intro v3 w3 ho3 _ hg3; have HO3 := Lib.hid ho3; have HG3 := Lib.hid (Chg.trans (Chg.of_up ((Chg.refl Nowhere (w.alloc (.cells #[.int .i64 5, .int .i64 k] 34))).alloc (.cells #[] 72))) hg3); have C1 := Chg.cell HG3.out c1'.out (by simp); have H3 := Lib.hid (HT.out.keep HG3.out (fun x _ hx h2 => by (have hx : x < w.heap.size := hx); (have h2 : w.heap.size + 1 ≤ x := h2); omega)); have hz3 := Lib.hid (Nat.le_trans (Nat.le_of_eq hz0.out.symm) HG3.out.size); clear ho3 hg3) | (at_builtin; refine wp_append_ops rfl _ _ rfl (w.heap.size + 1) _ (xs.take k) rfl HO3.out (fun x => x < w.heap.size) _ (xs.drop (k + 2)) rfl (H3.out.drops (k := k + 2) (by omega) (by omega) (fun _ => by first | rfl | (rw [if_neg (by omega)]) | omega) (by first | (simp; done) | (split <;> simp))) ?_ hz3.out ?_; (first | (simp; done) | (simp; omega)); intro v4 w4 ho4 _ hg4; have HO4 := Lib.hid ho4; have HG4 := Lib.hid (Chg.trans HG3.out hg4); clear ho4 hg4))
    all_goals
      go_ret
      exact ⟨_, rfl, HO4.out.ops.mono (fun b _ hb => ⟨by have := hb.1; omega, hb.2⟩), Chg.new ((Chg.refl Nowhere w).alloc _) HG4.out (fun i hi h2 => by have h2 : w.heap.size + 1 ≤ i := h2; omega)⟩
  have hn : takN r = 1 := by unfold takN; rw [if_neg (by omega)]
  have t4 : (r == 4) = false := by simpa using h4
  have t5 : (r == 5) = false := by simpa using h5
  rw [hn] at hk ⊢
  clear hn hn1
  have y1 : IntKind.i64.wrap ((k : Int) + 1) = (k : Int) + 1 := IntWalk.i64_in _ (by omega)
  have y2 : (k : Int) ≤ c := by omega
  have y3 : (k : Int) + 1 ≤ xs.length := by omega
  have y4 : 0 ≤ (k : Int) + 1 := by omega
  have y5 : ((k : Int) + 1).toNat = k + 1 := by omega
  go_enter Try.func47, Try.ntmps47
  have hz0 := Lib.hid (show (w.alloc (.cells #[.int .i64 r, .int .i64 k] 34)).heap.size = w.heap.size + 1 by simp)
  have c1' := Lib.hid c1
  have HT := Lib.hid (H.out.mono (T := fun x => x < w.heap.size) fun x _ hx => HS.out x hx)
  have HO0 := Lib.hid (show OwnO ((w.alloc (.cells #[.int .i64 r, .int .i64 k] 34)).alloc (.cells #[] 72)) (w.heap.size + 1) (.slice (some ⟨w.heap.size + 1, 0, none⟩) 0 0) [] by have h := OwnO.made (w.alloc (.cells #[.int .i64 r, .int .i64 k] 34)) (w.heap.size + 1) (by simp); rw [hz0.out] at h; exact h)
  have HB0 := Lib.hid (show w.heap.size + 1 ≤ ((w.alloc (.cells #[.int .i64 r, .int .i64 k] 34)).alloc (.cells #[] 72)).heap.size by simp)
  clear c0 c1
  go_wp2_with (first | (at_builtin; refine wp_append_ops rfl _ _ rfl (w.heap.size + 1) _ [] rfl HO0.out (fun x => x < w.heap.size) _ (xs.take k) rfl ((HT.out.takes (k := k) (by omega) rfl).up (Chg.alloc (Chg.refl _ _) _)) ?_ HB0.out ?_; (first | (simp; done) | (simp; omega)); intro v3 w3 ho3 _ hg3; have HO3 := Lib.hid ho3; have HG3 := Lib.hid (Chg.trans (Chg.of_up ((Chg.refl Nowhere (w.alloc (.cells #[.int .i64 r, .int .i64 k] 34))).alloc (.cells #[] 72))) hg3); have C1 := Chg.cell HG3.out c1'.out (by simp); have H3 := Lib.hid (HT.out.keep HG3.out (fun x _ hx h2 => by (have hx : x < w.heap.size := hx); (have h2 : w.heap.size + 1 ≤ x := h2); omega)); have hz3 := Lib.hid (Nat.le_trans (Nat.le_of_eq hz0.out.symm) HG3.out.size); clear ho3 hg3) | (at_builtin; refine wp_append_ops rfl _ _ rfl (w.heap.size + 1) _ (xs.take k) rfl HO3.out (fun x => x < w.heap.size) _ (xs.drop (k + 1)) rfl (H3.out.drops (k := k + 1) (by omega) (by omega) (fun _ => by first | rfl | (rw [if_neg (by omega)]) | omega) (by first | (simp; done) | (split <;> simp))) ?_ hz3.out ?_; (first | (simp; done) | (simp; omega)); intro v4 w4 ho4 _ hg4; have HO4 := Lib.hid ho4; have HG4 := Lib.hid (Chg.trans HG3.out hg4); clear ho4 hg4))
  all_goals
    go_ret
    exact ⟨_, rfl, HO4.out.ops.mono (fun b _ hb => ⟨by have := hb.1; omega, hb.2⟩), Chg.new ((Chg.refl Nowhere w).alloc _) HG4.out (fun i hi h2 => by have h2 : w.heap.size + 1 ≤ i := h2; omega)⟩
end Go.Proofs.Ytiiodfcbpmkodaa
set_option maxRecDepth 100000
set_option maxHeartbeats 1000000
namespace Go.Proofs.Ytiiodfcbpmkodaa
open Go.ChangeShapes Go.WideShapes Go.ChangeAt Go.RowKit
attribute [local go_sem ↓] Go.wp_at_zero Go.wp_at_succ
theorem within_is {n lo hi : Int} {f : Bool} (h : inB n lo hi = f) (w : World) : Calls Try.prog 42 #[.int .i64 n, .int .i64 lo, .int .i64 hi] w fun e w' => e = .returned (.bool f) ∧ w = w' := h ▸ within_any n lo hi w
theorem l00In_is {n lo hi : Int} {f : Bool} (h : inB n lo hi = f) (w : World) : Calls Try.prog 39 #[.int .i64 n, .int .i64 lo, .int .i64 hi] w fun e w' => e = .returned (.bool f) ∧ w = w' := h ▸ l00In_any n lo hi w
theorem ap_bad {n : Int} {xs : List OpM} {cd r k : Int} (h : optCode n xs = cd) (h0 : cd ≠ 0) : apC n xs r k = cd ∧ apL n xs r k = [] := by
  have : apC n xs r k = cd := by unfold apC; rw [h, if_neg h0]
  exact ⟨this, by unfold apL; rw [this, if_neg h0]⟩
theorem ap_no {n : Int} {xs : List OpM} {r k : Int} (h : apC n xs r k = 3) : apL n xs r k = [] := by unfold apL; rw [h]; rfl
theorem ApplySavingT (w : World) (n : Int) (S : Nat → Prop) (v : Value) (xs : List OpM) (h : Ops w S v xs) (r k : Int) :
    Calls Try.prog 22 #[.int .i64 n, v, .agg #[.int .i64 r, .int .i64 k]] w fun e w' => ∃ v', e = .returned (.tuple #[v', .int .i64 (apC n xs r k)]) ∧ Ops w' (New w.heap.size w'.heap.size) v' (apL n xs r k) ∧ Up w w' := by
  obtain ⟨cd, HCD⟩ : ∃ cd, Hid (optCode n xs = cd) := ⟨_, Lib.hid rfl⟩
  obtain ⟨A, c, rfl, hlc, hcm, -⟩ := h.1.shape
  have U := Lib.hid ((Chg.refl Nowhere w).alloc (.cells #[.int .i64 r, .int .i64 k] 34))
  have H := Lib.hid (Ops.up (h.mono (T := fun b => b < w.heap.size) fun _ h _ => h) U.out)
  obtain ⟨c0, c1⟩ := box2 w (.int .i64 r) (.int .i64 k) 34
  have C0 := Lib.hid c0
  have C1 := Lib.hid c1
  clear h c0 c1
  go_enter Try.func22, Try.ntmps22
  go_wp2_with fail
  refine (runCode_any _ _ _ xs H.out n).mono ?_
  rintro e w1 ⟨rfl, g1⟩
  have c0 := Chg.cell g1 C0.out id
  have c1 := Chg.cell g1 C1.out id
  replace H := Lib.hid (Ops.up H.out g1)
  replace U := Lib.hid (Chg.trans U.out g1)
  have HZ : Hid (w.heap.size < w1.heap.size) := Lib.hid (by have : (w.alloc (.cells #[.int .i64 r, .int .i64 k] 34)).heap.size = w.heap.size + 1 := by simp
                                                            have := g1.size
                                                            omega)
  clear g1 C0 C1
  rw [HCD.out]
  by_cases hcd : cd = 0
  rotate_left
  · have t1 : (cd == 0) = false := by simpa using hcd
    have t2 : (cd != 0) = true := by simpa using hcd
    have HV := Lib.hid (ap_bad (r := r) (k := k) HCD.out hcd)
    go_wp2
    go_ret2
    rw [HV.out.1, HV.out.2]
    exact ⟨_, rfl, Ops.nil _ _ 0 none (by omega), by repeat (first | exact U.out | refine Chg.drew ?_ | refine Chg.alloc ?_ _ | refine Chg.setCell ?_ (.inr (by simp)) _)⟩
  subst hcd
  obtain ⟨hok, hrun⟩ := opt_ok HCD.out
  have HOK := Lib.hid hok
  have HRUN := Lib.hid hrun
  obtain ⟨-, -, hlen⟩ := okOpsB_of hok
  clear hok hrun
  have y1 : IntKind.i64.wrap ((xs.length : Int) - 1) = (xs.length : Int) - 1 := IntWalk.i64_in _ (by omega)
  have q0 := up_cell c0
  have q1 := up_cell c1
  cases hin : inB k 0 ((xs.length : Int) - 1) with
  | false =>
    have HV : Hid (apC n xs r k = 3) := Lib.hid (by unfold apC; rw [HCD.out, if_pos rfl, hin, if_neg (by simp)])
    have WI := Lib.hid (within_is hin)
    clear hin
    go_wp2
    refine wp_region_up (by kernel_rfl) (by kernel_rfl) ?_
    repeat (go_big_quiet_step (first | (go_at_call 42; exact calls_up_same (WI.out _))))
    refine wpQuiet_nil ?_
    rintro u ⟨u0, hu⟩
    have gu := hu ▸ u0.up
    clear hu u0 q0 q1
    go_wp2
    go_ret2
    rw [ap_no HV.out, HV.out]
    replace U := Lib.hid (Chg.trans U.out gu)
    exact ⟨_, rfl, Ops.nil _ _ 0 none (by omega), by repeat (first | exact U.out | refine Chg.drew ?_ | refine Chg.alloc ?_ _ | refine Chg.setCell ?_ (.inr (by simp)) _)⟩
  | true =>
    have WI := Lib.hid (within_is hin)
    by_cases hr0 : r = 0
    · subst hr0
      have HV : Hid (apC n xs 0 k = 3) := Lib.hid (by unfold apC; rw [HCD.out, if_pos rfl, hin, if_pos rfl, if_pos rfl])
      clear hin
      go_wp2
      refine wp_region_up (by kernel_rfl) (by kernel_rfl) ?_
      repeat (go_big_quiet_step (first | (go_at_call 42; exact calls_up_same (WI.out _))))
      refine wpQuiet_nil ?_
      rintro u ⟨u0, hu⟩
      have gu := hu ▸ u0.up
      clear hu u0 q0 q1
      go_wp2
      go_ret2
      rw [ap_no HV.out, HV.out]
      replace U := Lib.hid (Chg.trans U.out gu)
      exact ⟨_, rfl, Ops.nil _ _ 0 none (by omega), by repeat (first | exact U.out | refine Chg.drew ?_ | refine Chg.alloc ?_ _ | refine Chg.setCell ?_ (.inr (by simp)) _)⟩
    have t5 : (r == 0) = false := by simpa using hr0
    obtain ⟨hk1, hk2⟩ := inB_of hin
    obtain ⟨kn, rfl⟩ : ∃ kn : Nat, k = kn := ⟨k.toNat, by omega⟩
    have hkl : kn < xs.length := by omega
    obtain ⟨ra, HRA⟩ : ∃ ra, Hid ((rulesM (newM n) xs).getD kn 0 = ra) := ⟨_, Lib.hid rfl⟩
    have HAC : Hid (apC n xs r kn = if ra = r then 0 else 3) := Lib.hid (by unfold apC; rw [HCD.out, if_pos rfl, hin, if_pos rfl, if_neg hr0, Int.toNat_natCast, HRA.out])
    clear hin
    have RA := Lib.hid (fun (u : UpOf w1) => by have h := ruleAt_any u.wd (fun b => b < w.heap.size) (fun _ h => Nat.lt_of_lt_of_le (Nat.lt_trans h HZ.out) u.up.size) _ xs (Ops.up H.out u.up) n HOK.out HRUN.out kn hkl; rw [HRA.out] at h; exact h)
    by_cases hra : ra = r
    rotate_left
    · have HV : Hid (apC n xs r kn = 3) := Lib.hid (by rw [HAC.out, if_neg hra])
      have t6 : (ra == r) = false := by simpa using hra
      have t7 : (ra != r) = true := by simpa using hra
      go_wp2
      refine wp_region_up (by kernel_rfl) (by kernel_rfl) ?_
      repeat (go_big_quiet_step (first | (go_at_call 42; exact calls_up_same (WI.out _)) | (go_at_call 43; exact calls_up (RA.out _))))
      refine wpQuiet_nil ?_
      rintro u ⟨u0, hu⟩
      have gu := hu ▸ u0.up
      clear hu u0 q0 q1
      skip
      go_wp2
      go_ret2
      rw [ap_no HV.out, HV.out]
      replace U := Lib.hid (Chg.trans U.out gu)
      exact ⟨_, rfl, Ops.nil _ _ 0 none (by omega), by repeat (first | exact U.out | refine Chg.drew ?_ | refine Chg.alloc ?_ _ | refine Chg.setCell ?_ (.inr (by simp)) _)⟩
    subst hra
    have HV : Hid (apC n xs ra kn = 0) := Lib.hid (by rw [HAC.out, if_pos rfl])
    have HLV : Hid (apL n xs ra kn = xs.take kn ++ xs.drop (kn + takN ra)) := Lib.hid (by unfold apL; rw [HV.out, if_pos rfl, Int.toNat_natCast]; rfl)
    have hroom : kn + takN ra ≤ xs.length := rule_room hkl ra HRA.out
    go_wp2
    refine wp_region_up (by kernel_rfl) (by kernel_rfl) ?_
    repeat (go_big_quiet_step (first | (go_at_call 42; exact calls_up_same (WI.out _)) | (go_at_call 43; exact calls_up (RA.out _))))
    refine wpQuiet_nil ?_
    rintro u ⟨u0, hu⟩
    have gu := hu ▸ u0.up
    clear hu u0 q0 q1
    skip
    have d0 := Chg.cell gu c0 id
    have d1 := Chg.cell gu c1 id
    clear c0 c1
    replace U := Lib.hid (Chg.trans U.out gu)
    replace H := Lib.hid (Ops.up H.out gu)
    replace HZ := Lib.hid (Nat.lt_of_lt_of_le HZ.out gu.size)
    clear gu
    go_wp2_with fail
    refine (without_any _ _ _ xs H.out ra kn hroom (by omega)).mono ?_
    rintro e w3 ⟨v3, rfl, k3, g3⟩
    have K3 := Lib.hid k3
    replace U := Lib.hid (Chg.trans U.out g3)
    clear k3 g3
    go_wp2
    go_ret2
    rw [HLV.out, HV.out]
    exact ⟨_, rfl, K3.out.mono (fun b _ hb => ⟨Nat.le_of_lt (Nat.lt_of_lt_of_le HZ.out hb.1), hb.2⟩), by repeat (first | exact U.out | refine Chg.drew ?_ | refine Chg.alloc ?_ _ | refine Chg.setCell ?_ (.inr (by simp)) _)⟩
theorem sApplySavingT (w : World) (n : Int) (S : Nat → Prop) (v : Value) (xs : List OpM) (h : Ops w S v xs) (r k : Int) :
    Calls Try.prog 20 #[.int .i64 n, v, .agg #[.int .i64 r, .int .i64 k]] w fun e w' => ∃ v', e = .returned (.tuple #[v', .int .i64 (apC n xs r k)]) ∧ Ops w' (New w.heap.size w'.heap.size) v' (apL n xs r k) ∧ Up w w' := by
  obtain ⟨cd, HCD⟩ : ∃ cd, Hid (optCode n xs = cd) := ⟨_, Lib.hid rfl⟩
  obtain ⟨A, c, rfl, hlc, hcm, -⟩ := h.1.shape
  have U := Lib.hid ((Chg.refl Nowhere w).alloc (.cells #[.int .i64 r, .int .i64 k] 34))
  have H := Lib.hid (Ops.up (h.mono (T := fun b => b < w.heap.size) fun _ h _ => h) U.out)
  obtain ⟨c0, c1⟩ := box2 w (.int .i64 r) (.int .i64 k) 34
  have C0 := Lib.hid c0
  have C1 := Lib.hid c1
  clear h c0 c1
  go_enter Try.func20, Try.ntmps20
  go_wp2_with fail
  refine (l25Rules_any _ _ _ xs H.out n).mono ?_
  rintro e w1 ⟨v1, rfl, k1, g1⟩
  obtain ⟨A1, c1, rfl, hl1, hc1, -⟩ := k1.shape
  have K1 := Lib.hid k1
  clear k1
  have c0 := Chg.cell g1 C0.out id
  have c1 := Chg.cell g1 C1.out id
  replace H := Lib.hid (Ops.up H.out g1)
  replace U := Lib.hid (Chg.trans U.out g1)
  have HZ : Hid (w.heap.size < w1.heap.size) := Lib.hid (by have : (w.alloc (.cells #[.int .i64 r, .int .i64 k] 34)).heap.size = w.heap.size + 1 := by simp
                                                            have := g1.size
                                                            omega)
  clear g1 C0 C1
  rw [HCD.out]
  by_cases hcd : cd = 0
  rotate_left
  · have t1 : (cd == 0) = false := by simpa using hcd
    have t2 : (cd != 0) = true := by simpa using hcd
    have HV := Lib.hid (ap_bad (r := r) (k := k) HCD.out hcd)
    go_wp2
    go_ret2
    rw [HV.out.1, HV.out.2]
    exact ⟨_, rfl, Ops.nil _ _ 0 none (by omega), by repeat (first | exact U.out | refine Chg.drew ?_ | refine Chg.alloc ?_ _ | refine Chg.setCell ?_ (.inr (by simp)) _)⟩
  subst hcd
  obtain ⟨hok, hrun⟩ := opt_ok HCD.out
  have HOK := Lib.hid hok
  have HRUN := Lib.hid hrun
  obtain ⟨-, -, hlen⟩ := okOpsB_of hok
  clear hok hrun
  have y1 : IntKind.i64.wrap ((xs.length : Int) - 1) = (xs.length : Int) - 1 := IntWalk.i64_in _ (by omega)
  have q0 := up_cell c0
  have q1 := up_cell c1
  cases hin : inB k 0 ((xs.length : Int) - 1) with
  | false =>
    have HV : Hid (apC n xs r k = 3) := Lib.hid (by unfold apC; rw [HCD.out, if_pos rfl, hin, if_neg (by simp)])
    have WI := Lib.hid (l00In_is hin)
    clear hin
    go_wp2
    refine wp_region_up (by kernel_rfl) (by kernel_rfl) ?_
    repeat (go_big_quiet_step (first | (go_at_call 39; exact calls_up_same (WI.out _))))
    refine wpQuiet_nil ?_
    rintro u ⟨u0, hu⟩
    have gu := hu ▸ u0.up
    clear hu u0 q0 q1
    go_wp2
    go_ret2
    rw [ap_no HV.out, HV.out]
    replace U := Lib.hid (Chg.trans U.out gu)
    exact ⟨_, rfl, Ops.nil _ _ 0 none (by omega), by repeat (first | exact U.out | refine Chg.drew ?_ | refine Chg.alloc ?_ _ | refine Chg.setCell ?_ (.inr (by simp)) _)⟩
  | true =>
    have WI := Lib.hid (l00In_is hin)
    by_cases hr0 : r = 0
    · subst hr0
      have HV : Hid (apC n xs 0 k = 3) := Lib.hid (by unfold apC; rw [HCD.out, if_pos rfl, hin, if_pos rfl, if_pos rfl])
      clear hin
      go_wp2
      refine wp_region_up (by kernel_rfl) (by kernel_rfl) ?_
      repeat (go_big_quiet_step (first | (go_at_call 39; exact calls_up_same (WI.out _))))
      refine wpQuiet_nil ?_
      rintro u ⟨u0, hu⟩
      have gu := hu ▸ u0.up
      clear hu u0 q0 q1
      go_wp2
      go_ret2
      rw [ap_no HV.out, HV.out]
      replace U := Lib.hid (Chg.trans U.out gu)
      exact ⟨_, rfl, Ops.nil _ _ 0 none (by omega), by repeat (first | exact U.out | refine Chg.drew ?_ | refine Chg.alloc ?_ _ | refine Chg.setCell ?_ (.inr (by simp)) _)⟩
    have t5 : (r == 0) = false := by simpa using hr0
    obtain ⟨hk1, hk2⟩ := inB_of hin
    obtain ⟨kn, rfl⟩ : ∃ kn : Nat, k = kn := ⟨k.toNat, by omega⟩
    have hkl : kn < xs.length := by omega
    obtain ⟨ra, HRA⟩ : ∃ ra, Hid ((rulesM (newM n) xs).getD kn 0 = ra) := ⟨_, Lib.hid rfl⟩
    have HAC : Hid (apC n xs r kn = if ra = r then 0 else 3) := Lib.hid (by unfold apC; rw [HCD.out, if_pos rfl, hin, if_pos rfl, if_neg hr0, Int.toNat_natCast, HRA.out])
    clear hin
    have hrl := rulesM_length (newM n) xs
    have hro := rulesOut_ok HCD.out
    rw [hro] at K1 hl1
    rw [hro]
    have hkl2 : kn < (rulesM (newM n) xs).length := by omega
    obtain ⟨gb, go, rfl, -, hc⟩ := K1.out.ixm hkl2
    have f1 : w1.cell? ⟨gb, go + kn, none⟩ = some (.int .i64 ra) := by have h := hc kn hkl2; rw [ixm_eq hkl2] at h; rw [h, ← HRA.out, List.getD_eq_getElem?_getD, List.getElem?_eq_getElem hkl2]; rfl
    have q2 := up_cell f1
    clear hc f1 hro K1
    by_cases hra : ra = r
    rotate_left
    · have HV : Hid (apC n xs r kn = 3) := Lib.hid (by rw [HAC.out, if_neg hra])
      have t6 : (ra == r) = false := by simpa using hra
      have t7 : (ra != r) = true := by simpa using hra
      go_wp2
      refine wp_region_up (by kernel_rfl) (by kernel_rfl) ?_
      repeat (go_big_quiet_step (first | (go_at_call 39; exact calls_up_same (WI.out _))))
      refine wpQuiet_nil ?_
      rintro u ⟨u0, hu⟩
      have gu := hu ▸ u0.up
      clear hu u0 q0 q1
      clear q2
      go_wp2
      go_ret2
      rw [ap_no HV.out, HV.out]
      replace U := Lib.hid (Chg.trans U.out gu)
      exact ⟨_, rfl, Ops.nil _ _ 0 none (by omega), by repeat (first | exact U.out | refine Chg.drew ?_ | refine Chg.alloc ?_ _ | refine Chg.setCell ?_ (.inr (by simp)) _)⟩
    subst hra
    have HV : Hid (apC n xs ra kn = 0) := Lib.hid (by rw [HAC.out, if_pos rfl])
    have HLV : Hid (apL n xs ra kn = xs.take kn ++ xs.drop (kn + takN ra)) := Lib.hid (by unfold apL; rw [HV.out, if_pos rfl, Int.toNat_natCast]; rfl)
    have hroom : kn + takN ra ≤ xs.length := rule_room hkl ra HRA.out
    go_wp2
    refine wp_region_up (by kernel_rfl) (by kernel_rfl) ?_
    repeat (go_big_quiet_step (first | (go_at_call 39; exact calls_up_same (WI.out _))))
    refine wpQuiet_nil ?_
    rintro u ⟨u0, hu⟩
    have gu := hu ▸ u0.up
    clear hu u0 q0 q1
    clear q2
    have d0 := Chg.cell gu c0 id
    have d1 := Chg.cell gu c1 id
    clear c0 c1
    replace U := Lib.hid (Chg.trans U.out gu)
    replace H := Lib.hid (Ops.up H.out gu)
    replace HZ := Lib.hid (Nat.lt_of_lt_of_le HZ.out gu.size)
    clear gu
    go_wp2_with fail
    refine (l25Apply_any _ _ (fun _ h => Nat.lt_trans h HZ.out) _ xs H.out ra kn hroom (by omega)).mono ?_
    rintro e w3 ⟨v3, rfl, k3, g3⟩
    have K3 := Lib.hid k3
    replace U := Lib.hid (Chg.trans U.out g3)
    clear k3 g3
    go_wp2
    go_ret2
    rw [HLV.out, HV.out]
    exact ⟨_, rfl, K3.out.mono (fun b _ hb => ⟨Nat.le_of_lt (Nat.lt_of_lt_of_le HZ.out hb.1), hb.2⟩), by repeat (first | exact U.out | refine Chg.drew ?_ | refine Chg.alloc ?_ _ | refine Chg.setCell ?_ (.inr (by simp)) _)⟩
end Go.Proofs.Ytiiodfcbpmkodaa
