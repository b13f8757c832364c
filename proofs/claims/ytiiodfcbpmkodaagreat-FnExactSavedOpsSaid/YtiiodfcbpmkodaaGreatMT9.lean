/- KindCounts and SavedOps on both sides. No condition but room. -/
import Derived.Test.YtiiodfcbpmkodaaGreatMZ3
import Derived.Test.YtiiodfcbpmkodaaGreatRec
import Derived.StillTailTactics
import Derived.Laws.AppendOwnNone
import Derived.Test.YtiiodfcbpmkodaaGreatOps
import Derived.Test.YtiiodfcbpmkodaaGreatOwnO
import Derived.Test.YtiiodfcbpmkodaaGreatSelf
import Derived.Lib.AppendZerosOnto
import Derived.Lib.SliceRun
import Derived.Test.YtiiodfcbpmkodaaGreatUpR
import Derived.Test.YtiiodfcbpmkodaaGreatValid3
import Derived.RegionTactic
set_option linter.unusedSimpArgs false
set_option linter.unusedVariables false
set_option maxRecDepth 100000
set_option maxHeartbeats 4000000
namespace Go.Proofs.YtiiodfcbpmkodaaGreat
open Go.ChangeShapes Go.WideShapes Go.ChangeAt Go.RowKit
attribute [local go_sem ↓] Go.wp_at_zero Go.wp_at_succ
theorem firstI_i64 (rs : List Int) (h : ∀ x ∈ rs, I64 x) : I64 (firstI rs 0).1 := by
  by_cases h0 : (firstI rs 0).1 = 0
  · rw [h0]; unfold I64; omega
  · obtain ⟨_, h2, h3⟩ := (firstI_spec rs 0).2 h0
    rw [← h3, List.getD_eq_getElem?_getD, List.getElem?_eq_getElem (by omega)]
    exact h _ (List.getElem_mem _)
theorem nextSaving_any (w : World) (S : Nat → Prop) (hS : ∀ b, S b → b < w.heap.size) (v : Value) (xs : List OpM) (h : Ops w S v xs) (n : Int) (hok : okOpsB n xs = true) (hrun : runM (newM n) xs = 0) :
    Calls Tryz.prog 37 #[.int .i64 n, v] w fun e w' => e = .returned (.tuple #[.agg #[.int .i64 (firstM n xs).1, .int .i64 (firstM n xs).2], .bool (decide ((firstM n xs).1 ≠ 0))]) ∧ Up w w' := by
  obtain ⟨A, c, rfl, hlc, hcm, -⟩ := h.1.shape
  have G0 := Lib.hid (((Chg.refl Nowhere w).alloc _).alloc _ : Up w ((w.alloc (.cells #[.int .i64 0, .int .i64 0] 52)).alloc (.cells #[.int .i64 0, .int .i64 0] 52)))
  have H := Lib.hid (Ops.up h G0.out)
  have HL := Lib.hid hS
  clear h hS
  have hsA : (w.alloc (.cells #[.int .i64 0, .int .i64 0] 52)).heap.size = w.heap.size + 1 := by simp
  have c1 := Lib.hid (cell_at (by simp) rfl : ((w.alloc (.cells #[.int .i64 0, .int .i64 0] 52)).alloc (.cells #[.int .i64 0, .int .i64 0] 52)).cell? ⟨w.heap.size + 1, 0, none⟩ = some (.int .i64 0))
  have c2 := Lib.hid (cell_at (by simp) rfl : ((w.alloc (.cells #[.int .i64 0, .int .i64 0] 52)).alloc (.cells #[.int .i64 0, .int .i64 0] 52)).cell? ⟨w.heap.size + 1, 1, none⟩ = some (.int .i64 0))
  have f1 : Hid (((w.alloc (.cells #[.int .i64 0, .int .i64 0] 52)).alloc (.cells #[.int .i64 0, .int .i64 0] 52)).frozen? ⟨w.heap.size + 1, 0, none⟩ = false) := Lib.hid (by have h := frozen_new (w.alloc (.cells #[.int .i64 0, .int .i64 0] 52)) #[.int .i64 0, .int .i64 0] 52 0; rw [hsA] at h; exact h)
  have f2 : Hid (((w.alloc (.cells #[.int .i64 0, .int .i64 0] 52)).alloc (.cells #[.int .i64 0, .int .i64 0] 52)).frozen? ⟨w.heap.size + 1, 1, none⟩ = false) := Lib.hid (by have h := frozen_new (w.alloc (.cells #[.int .i64 0, .int .i64 0] 52)) #[.int .i64 0, .int .i64 0] 52 1; rw [hsA] at h; exact h)
  go_enter Tryz.func37, Tryz.ntmps37
  go_wp2_with fail
  refine (rulesNs_any _ S _ xs H.out n hok hrun (w.heap.size + 1) (fun h => by have := HL.out _ h; omega) (by simp) c1.out f1.out c2.out f2.out).mono ?_
  rintro e w2 ⟨rfl, d1, d2, g1⟩
  have U := Lib.hid (Chg.new G0.out g1 (fun i hi h => by omega) : Up w w2)
  have hne : ¬ w.heap.size = w.heap.size + 1 := by omega
  have z00 : ((w.alloc (.cells #[.int .i64 0, .int .i64 0] 52)).alloc (.cells #[.int .i64 0, .int .i64 0] 52)).cell? ⟨w.heap.size, 0, none⟩ = some (.int .i64 0) := Chg.cell ((Chg.refl Nowhere (w.alloc (.cells #[.int .i64 0, .int .i64 0] 52))).alloc (.cells #[.int .i64 0, .int .i64 0] 52)) (cell_new w #[.int .i64 0, .int .i64 0] 52 0) id
  have y00 : ((w.alloc (.cells #[.int .i64 0, .int .i64 0] 52)).alloc (.cells #[.int .i64 0, .int .i64 0] 52)).frozen? ⟨w.heap.size, 0, none⟩ = false := (Chg.frozen ((Chg.refl Nowhere (w.alloc (.cells #[.int .i64 0, .int .i64 0] 52))).alloc (.cells #[.int .i64 0, .int .i64 0] 52)) (cell_new w #[.int .i64 0, .int .i64 0] 52 0) id).trans (frozen_new w #[.int .i64 0, .int .i64 0] 52 0)
  have z0 := Chg.cell g1 z00 hne
  have y0 := (Chg.frozen g1 z00 hne).trans y00
  clear z00 y00
  have z10 : ((w.alloc (.cells #[.int .i64 0, .int .i64 0] 52)).alloc (.cells #[.int .i64 0, .int .i64 0] 52)).cell? ⟨w.heap.size, 1, none⟩ = some (.int .i64 0) := Chg.cell ((Chg.refl Nowhere (w.alloc (.cells #[.int .i64 0, .int .i64 0] 52))).alloc (.cells #[.int .i64 0, .int .i64 0] 52)) (cell_new w #[.int .i64 0, .int .i64 0] 52 1) id
  have y10 : ((w.alloc (.cells #[.int .i64 0, .int .i64 0] 52)).alloc (.cells #[.int .i64 0, .int .i64 0] 52)).frozen? ⟨w.heap.size, 1, none⟩ = false := (Chg.frozen ((Chg.refl Nowhere (w.alloc (.cells #[.int .i64 0, .int .i64 0] 52))).alloc (.cells #[.int .i64 0, .int .i64 0] 52)) (cell_new w #[.int .i64 0, .int .i64 0] 52 1) id).trans (frozen_new w #[.int .i64 0, .int .i64 0] 52 1)
  have z1 := Chg.cell g1 z10 hne
  have y1 := (Chg.frozen g1 z10 hne).trans y10
  clear z10 y10
  obtain ⟨r, HR⟩ : ∃ r, Hid ((firstM n xs).1 = r) := ⟨_, Lib.hid rfl⟩
  obtain ⟨k, HK⟩ : ∃ k, Hid ((firstM n xs).2 = k) := ⟨_, Lib.hid rfl⟩
  rw [HR.out] at d1
  rw [HK.out] at d2
  clear g1 hok hrun hsA
  by_cases hr : r = 0
  · subst hr
    go_wp2
    go_region
    go_wp2
    all_goals exact bodyPost_ret (v := .tuple #[.agg #[.int .i64 0, .int .i64 k], .bool false]) (by rw [results_cell_tmp rfl]; go_simp) rfl ⟨by rw [HR.out, HK.out]; rfl, by repeat (first | exact U.out | refine Chg.drew ?_ | refine Chg.setCell ?_ (.inr (by simp)) _)⟩
  · have t1 : (r == 0) = false := by simpa using hr
    have t2 : (r != 0) = true := by simpa using hr
    go_wp2
    go_region
    go_wp2
    all_goals exact bodyPost_ret (v := .tuple #[.agg #[.int .i64 r, .int .i64 k], .bool true]) (by rw [results_cell_tmp rfl]; go_simp) rfl ⟨by rw [HR.out, HK.out, decide_eq_true hr], by repeat (first | exact U.out | refine Chg.drew ?_ | refine Chg.setCell ?_ (.inr (by simp)) _)⟩
theorem l25First_any (w : World) (S : Nat → Prop) (v : Value) (L : List Int) (h : Ints w S v L) :
    Calls Tryz.prog 32 #[v] w fun e w' => e = .returned (.tuple #[.agg #[.int .i64 (firstI L 0).1, .int .i64 (firstI L 0).2], .bool (decide ((firstI L 0).1 ≠ 0))]) ∧ Up w w' := by
  obtain ⟨A, c, rfl, hlc, hcm, -⟩ := h.shape
  have H := Lib.hid h
  clear h
  go_enter Tryz.func32, Tryz.ntmps32
  go_wp2
  go_loopw [4] (fun i wr => ∃ j : Nat, j ≤ L.length ∧ i = .int .i64 j ∧ wr = (w.alloc (.cells #[.int .i64 0, .int .i64 0] 52)) ∧ Hid (∀ i, i < j → L.getD i 0 = 0)) (fun i _ => L.length - (intOf i).toNat)
  case atStart => exact ⟨0, by omega, rfl, by first | rfl | trivial, fun i hi => by omega⟩
  case round =>
    obtain ⟨j, hj, rfl, rfl, hp⟩ := hrel
    have z0 : (w.alloc (.cells #[.int .i64 0, .int .i64 0] 52)).cell? ⟨w.heap.size, 0, none⟩ = some (.int .i64 0) := cell_new _ _ _ _
    have y0 : (w.alloc (.cells #[.int .i64 0, .int .i64 0] 52)).frozen? ⟨w.heap.size, 0, none⟩ = false := frozen_new _ _ _ _
    have z1 : (w.alloc (.cells #[.int .i64 0, .int .i64 0] 52)).cell? ⟨w.heap.size, 1, none⟩ = some (.int .i64 0) := cell_new _ _ _ _
    have y1 : (w.alloc (.cells #[.int .i64 0, .int .i64 0] 52)).frozen? ⟨w.heap.size, 1, none⟩ = false := frozen_new _ _ _ _
    by_cases hlt : j < L.length
    rotate_left
    · have HF := Lib.hid (firstI_none L 0 (fun i hi => hp.out i (by omega)))
      go_wp2
      exact bodyPost_ret (v := .tuple #[.agg #[.int .i64 0, .int .i64 0], .bool false]) (by rw [results_cell_tmp rfl]; go_simp) rfl ⟨by rw [HF.out]; first | rfl | (show _ = Ending.returned (.tuple #[.agg #[.int .i64 _, .int .i64 _], .bool (decide (_ ≠ 0))]); rw [decide_eq_true hx]), (Chg.refl Nowhere w).alloc _⟩
    obtain ⟨gb, go, rfl, -, hc⟩ := (H.out.up ((Chg.refl Nowhere w).alloc (.cells #[.int .i64 0, .int .i64 0] 52))).ixm hlt
    have f1 := hc j hlt
    rw [ixm_eq hlt] at f1
    have HG : Hid (L.getD j 0 = L[j]) := Lib.hid (by rw [List.getD_eq_getElem?_getD, List.getElem?_eq_getElem hlt]; rfl)
    obtain ⟨x, HX⟩ : ∃ x, Hid (L[j] = x) := ⟨L[j], Lib.hid rfl⟩
    rw [HX.out] at f1
    clear hc
    by_cases hx : x = 0
    · subst hx
      have HP : Hid (∀ i, i < j + 1 → L.getD i 0 = 0) := Lib.hid (fun i hi => by
        by_cases e : i = j
        · subst e; rw [HG.out, HX.out]
        · exact hp.out i (by omega))
      go_wp2
      go_roundw
      case rel => exact ⟨j + 1, by omega, by go_num, by first | rfl | trivial, HP.out⟩
      case measure => first | (simp [intOf]; done) | (simp [intOf]; omega)
    have t1 : (x == 0) = false := by simpa using hx
    have t2 : (x != 0) = true := by simpa using hx
    have HF := Lib.hid (firstI_at L 0 j hlt hp.out (by rw [HG.out, HX.out]; exact hx))
    rw [HG.out, HX.out, Nat.zero_add] at HF
    go_wp2
    exact bodyPost_ret (v := .tuple #[.agg #[.int .i64 x, .int .i64 j], .bool true]) (by rw [results_cell_tmp rfl]; go_simp) rfl ⟨by rw [HF.out]; first | rfl | (show _ = Ending.returned (.tuple #[.agg #[.int .i64 _, .int .i64 _], .bool (decide (_ ≠ 0))]); rw [decide_eq_true hx]), (Chg.refl Nowhere w).alloc _⟩
end Go.Proofs.YtiiodfcbpmkodaaGreat
namespace Go.Proofs.YtiiodfcbpmkodaaGreat
open Go.ChangeShapes Go.WideShapes Go.ChangeAt Go.RowKit
structure SavM where
  rule : Int
  idx : Int
def SavM.cells (x : SavM) : List Value := [.int .i64 x.rule, .int .i64 x.idx]
def SavM.ok (x : SavM) : Prop := I64 x.rule ∧ I64 x.idx
theorem SavM.cells_length (x : SavM) : x.cells.length = 2 := rfl
abbrev SavM.val (x : SavM) : Value := .agg #[.int .i64 x.rule, .int .i64 x.idx]
/-- a slice that reads as the list xs -/
def Savs (w : World) (S : Nat → Prop) (v : Value) (xs : List SavM) : Prop := Raw w S 2 v xs.length (xs.flatMap SavM.cells) ∧ ∀ x ∈ xs, x.ok
section
variable {S T : Nat → Prop} {w w' : World} {v : Value} {xs : List SavM}
theorem Savs.keep (h : Savs w S v xs) (g : Chg T w w') (hd : ∀ b, b < w.heap.size → S b → ¬ T b) : Savs w' S v xs := ⟨h.1.keep g hd, h.2⟩
theorem Savs.up (h : Savs w S v xs) (g : Up w w') : Savs w' S v xs := ⟨h.1.up g, h.2⟩
theorem Savs.alloc' (h : Savs w S v xs) (o : Obj) : Savs (w.alloc o) S v xs := h.up ((Chg.refl _ _).alloc o)
theorem Savs.mono (h : Savs w S v xs) (hs : ∀ b, b < w.heap.size → S b → T b) : Savs w T v xs := ⟨h.1.mono hs, h.2⟩
theorem Savs.shape (h : Savs w S v xs) : ∃ A c, v = .slice A xs.length c ∧ xs.length ≤ c ∧ c ≤ 9223372036854775807 ∧ (A = none → c = 0) := h.1.shape
theorem Savs.nil (w : World) (S : Nat → Prop) (c : Nat) (A : Option Addr) (hc : c ≤ 9223372036854775807) (hA : A = none → c = 0 := by simp) : Savs w S (.slice A 0 c) [] := ⟨Raw.nil w S 2 c A hc hA, by simp⟩
theorem Savs.at_ (h : Savs w S v xs) {i : Nat} (hi : i < xs.length) : ∃ b o c, v = .slice (some ⟨b, o, none⟩) xs.length c ∧ S b ∧ b < w.heap.size ∧
    ∀ j u, (xs[i].cells)[j]? = some u → w.cell? ⟨b, o + i * 2 + j, none⟩ = some u ∧ w.frozen? ⟨b, o + i * 2 + j, none⟩ = false := Raw.at_ SavM.cells_length h.1 hi
end
def MSavs (w : World) (S : Nat → Prop) (v : Value) (xs : List SavM) (k : Int) : Prop := Raw w S 2 v xs.length (markCells k (xs.length * 2))
theorem MSavs.keep {S T : Nat → Prop} {w w' : World} {v : Value} {xs : List SavM} {k : Int} (h : MSavs w S v xs k) (g : Chg T w w') (hd : ∀ b, b < w.heap.size → S b → ¬ T b) : MSavs w' S v xs k := Raw.keep h g hd
theorem MSavs.up {S : Nat → Prop} {w w' : World} {v : Value} {xs : List SavM} {k : Int} (h : MSavs w S v xs k) (g : Up w w') : MSavs w' S v xs k := Raw.up h g
/-- a slice of the call's own, from block base on -/
def OwnSavs (w : World) (base : Nat) (v : Value) (xs : List SavM) : Prop :=
  w.ownsRow base 52 2 v xs.length (xs.flatMap SavM.cells) ∧ ∀ x ∈ xs, x.ok
theorem OwnSavs.nil (w : World) (base : Nat) : OwnSavs w base (.slice none 0 0) [] := ⟨World.ownsRow_nil _ _ _ _, by simp⟩
theorem OwnSavs.made (w : World) (base : Nat) (hb : base ≤ w.heap.size) : OwnSavs (w.alloc (.cells #[] 52)) base (.slice (some ⟨w.heap.size, 0, none⟩) 0 0) [] :=
  ⟨World.ownsRow_made w _ 0 hb (by unfold Go.maxLen; omega) (by simp), by simp⟩
theorem OwnSavs.alloc {w : World} {base : Nat} {v : Value} {xs : List SavM} (h : OwnSavs w base v xs) (o : Obj) : OwnSavs (w.alloc o) base v xs := ⟨h.1.alloc o, h.2⟩
theorem OwnSavs.kept {w w' : World} {base : Nat} {v : Value} {xs : List SavM} {S : Nat → Prop} (h : OwnSavs w base v xs) (k : Chg S w w') (hS : ∀ g, v.ownBlock = some g → ¬ S g) : OwnSavs w' base v xs := by
  refine ⟨⟨h.1.1, ?_⟩, h.2⟩
  rcases h.1.2 with h2 | ⟨g, cap, cur, rfl, hg, hh, r⟩
  · exact Or.inl h2
  · exact Or.inr ⟨g, cap, cur, rfl, hg, (k.block g (Array.getElem?_eq_some_iff.1 hh).1 (hS g rfl)).trans hh, r⟩
theorem OwnSavs.up {w w' : World} {base : Nat} {v : Value} {xs : List SavM} (h : OwnSavs w base v xs) (k : Up w w') : OwnSavs w' base v xs := h.kept k fun _ _ h => h
theorem OwnSavs.rd {w : World} {base : Nat} {v : Value} {xs : List SavM} (h : OwnSavs w base v xs) : Savs w (New base w.heap.size) v xs := ⟨Raw.of_own h.1, h.2⟩
theorem OwnSavs.lt {w : World} {base : Nat} {v : Value} {xs : List SavM} (h : OwnSavs w base v xs) {g : Nat} (hg : v.ownBlock = some g) : base ≤ g ∧ g < w.heap.size := h.1.lt g hg
theorem infoSavs : (Tryz.prog.info? 52).map (fun i => (i.zero, i.size, i.bytes)) = some (some (SavM.mk 0 0).val, 2, 16) := by kernel_rfl
theorem cells_oneSavs (x : SavM) : ∀ u ∈ x.cells, u.oneCell' = true := by
  intro u hu
  simp only [SavM.cells, List.mem_cons, List.not_mem_nil, or_false] at hu
  rcases hu with rfl | rfl <;> rfl
theorem wp_appendSavs {w : World} {ops : Array Oper} {rest : List Oper} {o : Oper} {a : Act} {Q : Exit → Act → World → Prop} (hgd : o.guard = none) (s x : Operand)
    (ho : o.op = .call { callee := .builtin .append, args := #[s, x], argTypes := #[24, 24] })
    (base : Nat) (v : Value) (xs : List SavM) (hs : a.eval s = v) (hown : OwnSavs w base v xs)
    (S : Nat → Prop) (u : Value) (ys : List SavM) (hx : a.eval x = u) (hsrc : Savs w S u ys) (hlen : xs.length + ys.length ≤ 1099511627776) (hbase : base ≤ w.heap.size)
    (h : ∀ v' w', OwnSavs w' base v' (xs ++ ys) → w.grownBy w' v.ownBlock → Chg (fun k => base ≤ k) w w' → wpList Tryz.prog ops Q rest (a.put o.dst v') w') : wpList Tryz.prog ops Q (o :: rest) a w := by
  obtain ⟨i0, hi, hz0, hz1, hz2⟩ := info_parts infoSavs
  obtain ⟨⟨hl, A, c, rfl, hlc, hcm, hr, hnn⟩, hok⟩ := hsrc
  have hok' : ∀ y ∈ xs ++ ys, y.ok := fun y hy => (List.mem_append.1 hy).elim (hown.2 y) (hok y)
  cases A with
  | none =>
    have hy : ys = [] := by
      rcases Nat.eq_zero_or_pos ys.length with h0 | h0
      · exact List.eq_nil_of_length_eq_zero h0
      · obtain ⟨b, oo, h1, _⟩ := hr h0
        cases h1
    subst hy
    obtain rfl := hnn rfl
    refine wpList_append_own_none hgd s x 24 ho base 52 i0 2 Tryz.underlying24 hi v xs.length _ hs hown.1 hx ?_
    exact h v w (by simpa using hown) (World.grownBy.refl w _) (Chg.refl _ _)
  | some ad =>
    have hnews : ∀ j q, (ys.flatMap SavM.cells)[j]? = some q → w.cell? (ad.add j) = some q := by
      intro j q hq
      obtain ⟨hj, he⟩ := List.getElem?_eq_some_iff.1 hq
      have hp : 0 < ys.length := by
        rcases Nat.eq_zero_or_pos ys.length with h0 | h0
        · rw [List.eq_nil_of_length_eq_zero h0] at hj; simp at hj
        · exact h0
      obtain ⟨b, oo, h1, _, _, hc⟩ := hr hp
      injection h1 with h1
      subst h1
      have := (hc j hj).1
      rw [he] at this
      rw [← this]
      unfold Addr.add
      by_cases h0 : j = 0 <;> simp [h0]
    refine wpList_append_own (P := Tryz.prog) w hgd s x 24 ho base 52 i0 _ 2 16 Tryz.underlying24 hi hz0 hz1 hz2 rfl (by decide) v xs.length _ hs hown.1 ad ys.length c (ys.flatMap SavM.cells) hx hl hnews ?_ ?_ ?_ hbase ?_
    · intro q hq
      obtain ⟨y, _, hy⟩ := List.mem_flatMap.1 hq
      exact cells_oneSavs y q hy
    · unfold Go.maxLen; omega
    · omega
    · intro v' w' h2 h3 _
      exact h v' w' ⟨by simpa using h2, hok'⟩ h3 ((Chg.refl _ _).grown h3 fun k hk => .inl (hown.1.lt k hk).1)
theorem wp_append1Savs {w : World} {ops : Array Oper} {rest : List Oper} {o : Oper} {a : Act} {Q : Exit → Act → World → Prop} (hgd : o.guard = none) (s x : Operand)
    (ho : o.op = .call { callee := .builtin .append, args := #[s, x], argTypes := #[24, 24] })
    (base : Nat) (v : Value) (xs : List SavM) (hs : a.eval s = v) (hown : OwnSavs w base v xs)
    (g : Nat) (y : SavM) (hx : a.eval x = .slice (some ⟨g, 0, none⟩) 1 1) (hh : w.heap[g]? = some (.cells y.cells.toArray 52 (0, 0))) (hy : y.ok) (hlen : xs.length ≤ 1099511627775) (hbase : base ≤ w.heap.size)
    (h : ∀ v' w', OwnSavs w' base v' (xs ++ [y]) → w.grownBy w' v.ownBlock → Chg (fun k => base ≤ k) w w' → wpList Tryz.prog ops Q rest (a.put o.dst v') w') : wpList Tryz.prog ops Q (o :: rest) a w :=
  wp_appendSavs hgd s x ho base v xs hs hown (fun _ => True) _ [y] hx ⟨Raw.of_block hh (by simp) trivial rfl (by simp) (by omega), by simpa using hy⟩ (by simp; omega) hbase h
end Go.Proofs.YtiiodfcbpmkodaaGreat
namespace Go.Proofs.YtiiodfcbpmkodaaGreat
theorem optM_mono (w : Int) : ∀ (f : Nat) (ops : List OpM), ops.length ≤ f → optM w f ops = optM w ops.length ops := by
  intro f
  induction f using Nat.strongRecOn with
  | _ f ih =>
    intro ops hl
    by_cases h : (firstM w ops).1 = 0
    · have : ∀ k, optM w k ops = (ops, []) := fun k => by cases k <;> simp [optM, h]
      rw [this, this]
    · have hlt := (firstM_lt h).1
      obtain ⟨k, hk⟩ : ∃ k, ops.length = k + 1 := ⟨ops.length - 1, by omega⟩
      obtain ⟨g, rfl⟩ : ∃ g, f = g + 1 := ⟨f - 1, by omega⟩
      have hc : (cutM ops (firstM w ops).1 (firstM w ops).2).length < ops.length := cutM_lt hlt
      rw [hk]
      simp only [optM, if_neg h]
      rw [ih g (by omega) _ (by omega)]
      by_cases hkg : k = g
      · subst hkg
        rw [ih k (by omega) _ (by omega)]
      · rw [ih k (by omega) _ (by omega)]
/-- all that is done to a program -/
def optA (w : Int) (ops : List OpM) : List OpM × List (Int × Nat) := optM w ops.length ops
theorem optA_stop {w : Int} {ops : List OpM} (h : (firstM w ops).1 = 0) : optA w ops = (ops, []) := by
  unfold optA
  cases ops.length <;> simp [optM, h]
theorem optA_step {w : Int} {ops : List OpM} (h : (firstM w ops).1 ≠ 0) : optA w ops = ((optA w (cutM ops (firstM w ops).1 (firstM w ops).2)).1, firstM w ops :: (optA w (cutM ops (firstM w ops).1 (firstM w ops).2)).2) := by
  have hlt := (firstM_lt h).1
  obtain ⟨k, hk⟩ : ∃ k, ops.length = k + 1 := ⟨ops.length - 1, by omega⟩
  have hc : (cutM ops (firstM w ops).1 (firstM w ops).2).length < ops.length := cutM_lt hlt
  unfold optA
  rw [hk]
  simp only [optM, if_neg h]
  rw [optM_mono w k _ (by omega)]
theorem okOpsB_cut {w : Int} {ops : List OpM} {r : Int} {i : Nat} (h : okOpsB w ops = true) : okOpsB w (cutM ops r i) = true := by
  unfold okOpsB at h ⊢
  simp only [Bool.and_eq_true, List.all_eq_true, decide_eq_true_eq] at h ⊢
  refine ⟨fun x hx => h.1 x (cutM_mem hx), h.2.1, ?_⟩
  have : (cutM ops r i).length ≤ ops.length := by unfold cutM; simp; omega
  omega
theorem cut_ok {w : Int} {ops : List OpM} (hok : okOpsB w ops = true) (hr : runM (newM w) ops = 0) (h : (firstM w ops).1 ≠ 0) :
    okOpsB w (cutM ops (firstM w ops).1 (firstM w ops).2) = true ∧ runM (newM w) (cutM ops (firstM w ops).1 (firstM w ops).2) = 0 := by
  obtain ⟨h1, h2, h3⟩ := okOpsB_of hok
  exact ⟨okOpsB_cut hok, firstM_cut h2 h1 hr h⟩
theorem rule_next {m : MachM} {o n : OpM} (h : ruleM m o n = 4 ∨ ruleM m o n = 5) : n.kind ≠ 0 := by
  intro h0
  unfold ruleM at h
  have e4 : ¬ n.kind = 4 := by omega
  have e9 : ¬ n.kind = 9 := by omega
  have e7 : ¬ n.kind = 7 := by omega
  simp only [e4, e9, e7, false_and, and_false, if_false] at h
  repeat (split at h)
  all_goals (first | omega | (rcases h with h | h <;> omega))
/-- the operations that a rule takes are all there -/
theorem rule_room {m : MachM} {ops : List OpM} {i : Nat} (hi : i < ops.length) (r : Int) (hr : (rulesM m ops).getD i 0 = r) : i + cutN r ≤ ops.length := by
  unfold cutN
  by_cases h : r = 4 ∨ r = 5
  · rw [if_pos h]
    by_cases h2 : i + 1 < ops.length
    · omega
    · exfalso
      rw [rules_getD m ops i hi] at hr
      rw [← hr] at h
      have := rule_next h
      rw [List.getD_eq_getElem?_getD, List.getElem?_eq_none (by omega)] at this
      exact this rfl
  · rw [if_neg h]; omega
def savL (x : List (Int × Nat)) : List SavM := x.map fun y => ⟨y.1, y.2⟩
end Go.Proofs.YtiiodfcbpmkodaaGreat
namespace Go.Proofs.YtiiodfcbpmkodaaGreat
open Go.ChangeShapes Go.WideShapes Go.ChangeAt Go.RowKit
theorem Ops.part {w : World} {S : Nat → Prop} {A A' : Option Addr} {c c' k : Nat} {xs : List OpM} (h : Ops w S (.slice A xs.length c) xs) (i : Nat) (hik : i + k ≤ xs.length) (hc : k ≤ c') (hc2 : c' ≤ 9223372036854775807)
    (hA : ∀ b o, A = some ⟨b, o, none⟩ → 0 < k → A' = some ⟨b, o + i * 8, none⟩) (hn : A' = none → c' = 0) : Ops w S (.slice A' k c') ((xs.drop i).take k) := by
  obtain ⟨⟨hl, A0, c0, he, h1, h2, h3, h4⟩, hok⟩ := h
  obtain ⟨rfl, rfl⟩ : A = A0 ∧ c = c0 := by simpa using he
  have hlen : ((xs.drop i).take k).length = k := by rw [List.length_take, List.length_drop]; omega
  refine ⟨⟨flat_length OpM.cells 8 (fun _ => rfl) _, A', c', by rw [hlen], by rw [hlen]; exact hc, hc2, fun hp => ?_, hn⟩, fun x hx => hok x (List.mem_of_mem_drop (List.mem_of_mem_take hx))⟩
  rw [hlen] at hp
  obtain ⟨b, o, hA0, hS, hb, hcell⟩ := h3 (by omega)
  refine ⟨b, o + i * 8, hA b o hA0 hp, hS, hb, fun t ht => ?_⟩
  have htl : t < k * 8 := by rw [flat_length OpM.cells 8 (fun _ => rfl), hlen] at ht; exact ht
  have hq : t / 8 < k := by omega
  have hj : t % 8 < 8 := by omega
  have hti : (i + t / 8) * 8 + t % 8 = i * 8 + t := by omega
  have hbig : (i + t / 8) * 8 + t % 8 < (xs.flatMap OpM.cells).length := by rw [flat_length OpM.cells 8 (fun _ => rfl)]; omega
  have e1 := flat_get OpM.cells 8 (fun _ => rfl) xs (i + t / 8) (by omega) (t % 8) hj
  have e2 := flat_get OpM.cells 8 (fun _ => rfl) ((xs.drop i).take k) (t / 8) (by omega) (t % 8) hj
  have e3 : ((xs.drop i).take k)[t / 8]'(by omega) = xs[i + t / 8]'(by omega) := by simp
  rw [show t / 8 * 8 + t % 8 = t by omega, e3, ← e1, List.getElem?_eq_getElem ht, List.getElem?_eq_getElem hbig] at e2
  have e4 := hcell _ hbig
  injection e2 with e2
  rw [← e2, hti] at e4
  rwa [← Nat.add_assoc] at e4
end Go.Proofs.YtiiodfcbpmkodaaGreat
namespace Go.Proofs.YtiiodfcbpmkodaaGreat
open Go.ChangeShapes Go.WideShapes Go.ChangeAt Go.RowKit
theorem growOps_nil (w : World) (n : Nat) (hn : n ≤ 1073741824) :
    Calls Tryz.prog 71 #[.slice none 0 0, .int .i64 n] w fun e w' => ∃ v, e = .returned v ∧ OwnO w' w.heap.size v [] ∧ Up w w' := by
  have h1 : ¬ ((n : Int) < 0) := by omega
  by_cases h0 : 0 < n
  · obtain ⟨i0, hi, hz0, hz1, hz2⟩ := info_parts infoOp
    have hrz : ∀ ty, (Builtin.append_ #[27, 3] ty #[.slice none 0 0, .int .i64 (n : Int)]).run Tryz.prog w =
        .ok (.slice (some ⟨w.heap.size, 0, none⟩) n (grownCap w n 0 44))
          (w.drew.alloc (.cells (Builtin.zeroCells (OpM.mk 0 0 0 0 0 0 0 0).val.cells n ++ Builtin.zeroCells (OpM.mk 0 0 0 0 0 0 0 0).val.cells (grownCap w n 0 44 - n)) 44)) := fun ty => by
      have h := Lib.run_append_grow_zeros (P := Tryz.prog) w 27 3 ty 44 i0 _ .i64 .i64 Tryz.underlying27 Tryz.underlying3 hi hz0 none 0 0 [] (run_firstCells_none w.drew i0.size 0 0 0) n h0 (by omega) (by omega) (by omega) (by rw [hz2]; omega)
        (by rw [hz2]; exact growslice_fits (by omega) (by omega))
      simpa using h
    have hGn : n ≤ grownCap w n 0 44 := grownCap_ge w _ _ _
    have hG63 := grownCap_le_maxLen w n 0 44 (by unfold Go.maxLen; omega)
    obtain ⟨G, hG⟩ : ∃ G, G = grownCap w n 0 44 := ⟨_, rfl⟩
    rw [← hG] at hrz hGn hG63
    clear hG hi hz0 hz1 hz2
    unfold Go.maxLen at hG63
    go_enter Tryz.func71, Tryz.ntmps71
    go_wp2_with (at_builtin; refine Lib.wpList_append_run _ rfl _ _ _ _ rfl _ _ rfl rfl _ _ (hrz _) ?_)
    go_ret
    refine ⟨_, rfl, ⟨⟨by simp, .inr ⟨w.heap.size, G, _, rfl, Nat.le_refl _, heap_alloc_new w _, Nat.zero_le _, by unfold Go.maxLen; omega, ?_, by simp⟩⟩, by simp⟩, ((Chg.refl _ _).alloc _).drew⟩
    simp [Builtin.zeroCells]
    omega
  · obtain rfl : n = 0 := by omega
    go_enter Tryz.func71, Tryz.ntmps71
    go_wp2
    go_ret
    exact ⟨_, rfl, OwnO.nil _ _, Chg.refl _ _⟩
theorem concatOps_any (w : World) (S1 S : Nat → Prop) (arg : Value) (vs : List Value) (yss : List (List OpM)) (hvl : vs.length = yss.length) (harg : Raw w S1 1 arg yss.length vs)
    (hys : ∀ (i : Nat) (u : Value) (y : List OpM), vs[i]? = some u → yss[i]? = some y → Ops w S u y) (hsum : sumLen yss yss.length ≤ 1073741824) :
    Calls Tryz.prog 56 #[arg] w fun e w' => ∃ v, e = .returned v ∧ Ops w' (New w.heap.size w'.heap.size) v yss.flatten ∧ Up w w' := by
  obtain ⟨A, c, rfl, hlc, hcm, -⟩ := harg.shape
  have HA := Lib.hid harg
  have HY := Lib.hid hys
  have HM := Lib.hid hsum
  have HV := Lib.hid hvl
  clear harg hys hsum hvl
  go_enter Tryz.func56, Tryz.ntmps56
  go_wp2
  go_loop [3, 5, 11] (fun q _ i => ∃ j : Nat, j ≤ yss.length ∧ i = .int .i64 j ∧ q = .int .i64 (sumLen yss j)) (fun _ _ i => yss.length - (intOf i).toNat)
  case atStart => exact ⟨0, by omega, rfl, by simp [sumLen]⟩
  case round =>
    obtain ⟨j, hj, rfl, rfl⟩ := hrel
    by_cases hlt : j < yss.length
    · obtain ⟨h0, A', c', he, -, -, hr, -⟩ := HA.out
      obtain ⟨b, o, hAb, -, -, hc⟩ := hr (by omega)
      obtain ⟨rfl, rfl⟩ : A = A' ∧ c = c' := by simpa using he
      subst hAb
      have hcj := (hc j (by rw [HV.out]; exact hlt)).1
      obtain ⟨A1, c1, hv1, hl1, hc1, -⟩ := (HY.out j _ _ (List.getElem?_eq_getElem (by rw [HV.out]; exact hlt)) (List.getElem?_eq_getElem hlt)).shape
      rw [hv1] at hcj
      have hs1 := sumLen_succ yss j hlt
      have hs2 := sumLen_le yss (j + 1)
      have hs3 : (sumLen yss j : Int) + yss[j].length ≤ 1073741824 := by have := HM.out; omega
      have HS1 := Lib.hid hs1
      have hng : ¬ ((sumLen yss j : Int) + yss[j].length < 0) := by omega
      clear hc hr he h0 hv1 hs1 hs2
      go_wp2
      go_round
      case rel => exact ⟨j + 1, by omega, by go_num, by rw [HS1.out]; go_num⟩
      case measure => simp [intOf]; omega
    · obtain rfl : j = yss.length := by omega
      go_wp2_with fail
      refine (growOps_nil _ _ HM.out).mono ?_
      rintro e w1 ⟨v, rfl, k1, g1⟩
      have K1 := Lib.hid k1
      have G1 := Lib.hid g1
      clear k1 g1
      go_wp2
      go_loopw [6, 8, 27] (fun v _ i wr => ∃ j : Nat, j ≤ yss.length ∧ i = .int .i64 j ∧ Hid (OwnO wr w.heap.size v (yss.take j).flatten) ∧ Hid (Up w wr)) (fun _ _ i _ => yss.length - (intOf i).toNat)
      case atStart => exact ⟨0, by omega, rfl, by simpa [Hid] using K1.out, G1.out⟩
      case round =>
        obtain ⟨j, hj2, rfl, ho, hg⟩ := hrel
        by_cases hlt2 : j < yss.length
        · obtain ⟨h0, A', c', he, -, -, hr, -⟩ := HA.out.up hg.out
          obtain ⟨b, o, hAb, -, -, hc⟩ := hr (by omega)
          obtain ⟨rfl, rfl⟩ : A = A' ∧ c = c' := by simpa using he
          subst hAb
          have hcj := (hc j (by rw [HV.out]; exact hlt2)).1
          have hsrc := (HY.out j _ _ (List.getElem?_eq_getElem (by rw [HV.out]; exact hlt2)) (List.getElem?_eq_getElem hlt2)).up hg.out
          obtain ⟨A1, c1, hv1, hl1, hc1, -⟩ := hsrc.shape
          rw [hv1] at hcj hsrc
          have HSR := Lib.hid hsrc
          have HL := Lib.hid (show (yss.take j).flatten.length + yss[j].length ≤ 1099511627776 by
            rw [flat_take_length]
            have h1 := sumLen_succ yss j hlt2
            have h2 := sumLen_le yss (j + 1)
            have := HM.out
            omega)
          have hsz := hg.out.size
          clear hc hr he h0 hv1 hsrc
          go_wp2_with (first | (at_builtin; refine wp_append_ops rfl _ _ rfl w.heap.size _ (yss.take j).flatten rfl ho.out S _ yss[j] rfl HSR.out HL.out ?_ ?_; (first | omega | (simp; omega)); intro v' w3 ho1 _ hg1; have HO := Lib.hid ho1; have HG := Lib.hid hg1; clear ho1 hg1))
          go_roundw
          case rel => exact ⟨j + 1, by omega, by go_num, by rw [flat_take _ _ hlt2]; exact HO.out, Chg.new hg.out HG.out (fun i hi => by omega)⟩
          case measure => simp [intOf]; omega
        · obtain rfl : j = yss.length := by omega
          go_wp2
          go_ret
          refine ⟨_, rfl, ?_, hg.out⟩
          have := ho.out.ops
          rwa [List.take_length] at this
end Go.Proofs.YtiiodfcbpmkodaaGreat
set_option maxRecDepth 100000
set_option maxHeartbeats 1000000
namespace Go.Proofs.YtiiodfcbpmkodaaGreat
open Go.ChangeShapes Go.WideShapes Go.ChangeAt Go.RowKit
def takN (r : Int) : Nat := if r = 4 ∨ r = 5 then 2 else 1
theorem Ops.takes {w : World} {S : Nat → Prop} {b o c : Nat} {xs : List OpM} (h : Ops w S (.slice (some ⟨b, o, none⟩) xs.length c) xs) {k c2 : Nat} (hk : k ≤ xs.length) (hc2 : c2 = c) : Ops w S (.slice (some ⟨b, o, none⟩) k c2) (xs.take k) := by
  subst hc2
  obtain ⟨A, c', he, h1, h2, -⟩ := h.1.shape
  obtain ⟨rfl, rfl⟩ : some ⟨b, o, none⟩ = A ∧ c2 = c' := by simpa using he
  have := h.part (A' := some ⟨b, o, none⟩) (c' := c2) 0 (k := k) (by omega) (by omega) h2 (fun b' o' e _ => by simpa using e) (by simp)
  simpa using this
theorem Ops.drops {w : World} {S : Nat → Prop} {b o c : Nat} {xs : List OpM} (h : Ops w S (.slice (some ⟨b, o, none⟩) xs.length c) xs) {k c' : Nat} (hk : k ≤ xs.length) (hc' : c' = c - k) {A : Option Addr} (hA : k < xs.length → A = some ⟨b, o + k * 8, none⟩) (hA2 : A ≠ none) : Ops w S (.slice A (xs.length - k) c') (xs.drop k) := by
  subst hc'
  obtain ⟨A', c', he, h1, h2, -⟩ := h.1.shape
  obtain ⟨rfl, rfl⟩ : some ⟨b, o, none⟩ = A' ∧ c = c' := by simpa using he
  have := h.part (A' := A) (c' := c - k) k (k := xs.length - k) (by omega) (by omega) (by omega) (fun b' o' e hp => by (have e2 : b = b' ∧ o = o' := by simpa using e); rw [← e2.1, ← e2.2]; exact hA (by omega)) (fun e => absurd e hA2)
  rwa [List.take_of_length_le (by simp)] at this
theorem without_any (w : World) (S : Nat → Prop) (v : Value) (xs : List OpM) (h : Ops w S v xs) (r : Int) (k : Nat) (hk : k + takN r ≤ xs.length) (hlen : xs.length ≤ 1000000) :
    Calls Tryz.prog 38 #[v, .agg #[.int .i64 r, .int .i64 k]] w fun e w' => ∃ v', e = .returned v' ∧ Ops w' (New w.heap.size w'.heap.size) v' (xs.take k ++ xs.drop (k + takN r)) ∧ Up w w' := by
  obtain ⟨A, c, rfl, hlc, hcm, -⟩ := h.1.shape
  have hn1 : 1 ≤ takN r := by unfold takN; split <;> omega
  obtain ⟨b, o, rfl⟩ : ∃ b o, A = some ⟨b, o, none⟩ := by
    obtain ⟨b, o, c', he, -⟩ := h.at_ (i := 0) (by omega)
    exact ⟨b, o, by injection he⟩
  have H := Lib.hid (h.up ((Chg.refl Nowhere w).alloc (.cells #[.int .i64 r, .int .i64 k] 52)))
  have c0 : (w.alloc (.cells #[.int .i64 r, .int .i64 k] 52)).cell? ⟨w.heap.size, 0, none⟩ = some (.int .i64 r) := cell_new _ _ _ _
  have c1 : (w.alloc (.cells #[.int .i64 r, .int .i64 k] 52)).cell? ⟨w.heap.size, 1, none⟩ = some (.int .i64 k) := cell_new _ _ _ _
  clear h
  by_cases h4 : r = 4
  · subst h4
    have hn : takN 4 = 2 := rfl
    rw [hn] at hk ⊢
    clear hn hn1
    have y1 : IntKind.i64.wrap ((k : Int) + 2) = (k : Int) + 2 := IntWalk.i64_in _ (by omega)
    have y2 : (k : Int) ≤ c := by omega
    have y3 : (k : Int) + 2 ≤ xs.length := by omega
    have y4 : 0 ≤ (k : Int) + 2 := by omega
    have y5 : ((k : Int) + 2).toNat = k + 2 := by omega
    go_enter Tryz.func38, Tryz.ntmps38
    go_wp2
    have G0 := Lib.hid ((Chg.refl Nowhere w).alloc (.cells #[.int .i64 4, .int .i64 k] 52))
    have hz0 := Lib.hid (show (w.alloc (.cells #[.int .i64 4, .int .i64 k] 52)).heap.size = w.heap.size + 1 by simp)
    generalize (w.alloc (.cells #[.int .i64 4, .int .i64 k] 52)) = w1 at *
    go_still_tail 10, (by kernel_rfl)
    go_wp2_with fail
    all_goals
      refine (concatOps_any _ (fun _ => True) (fun _ => True) _ [_, _] [xs.take k, xs.drop (k + 2)] rfl (Raw.up (Raw.of_block (heap_new_at rfl) rfl trivial rfl (by simp) (by omega)) (Chg.drew (Chg.refl _ _))) ?_ (by simp [sumLen]; omega)).mono ?_
      · intro i u y hu hy
        match i, hu, hy with
        | 0, hu, hy => injection hu with hu; injection hy with hy; subst hu hy; exact ((H.out.takes (k := k) (by omega) (by omega)).up (Chg.drew (Chg.alloc (Chg.refl _ _) _))).mono fun _ _ _ => trivial
        | 1, hu, hy => injection hu with hu; injection hy with hy; subst hu hy; exact ((H.out.drops (k := k + 2) (by omega) (by omega) (fun _ => by first | rfl | omega) (by simp)).up (Chg.drew (Chg.alloc (Chg.refl _ _) _))).mono fun _ _ _ => trivial
        | i + 2, hu, hy => simp at hu
      rintro e w4 ⟨v4, rfl, k4, g4⟩
      have hz1 := hz0.out
      have K4 := Lib.hid k4
      have G4 := Lib.hid g4
      clear k4 g4 hz0
      go_wp2
      go_ret
      refine ⟨_, rfl, ?_, Chg.trans (Chg.drew (Chg.alloc G0.out _)) G4.out⟩
      have h5 := K4.out.mono (T := New w.heap.size w4.heap.size) (fun b _ hb => ⟨by have := hb.1; simp at this; omega, hb.2⟩)
      simpa using h5
  by_cases h5 : r = 5
  · subst h5
    have hn : takN 5 = 2 := rfl
    rw [hn] at hk ⊢
    clear hn hn1
    have y1 : IntKind.i64.wrap ((k : Int) + 2) = (k : Int) + 2 := IntWalk.i64_in _ (by omega)
    have y2 : (k : Int) ≤ c := by omega
    have y3 : (k : Int) + 2 ≤ xs.length := by omega
    have y4 : 0 ≤ (k : Int) + 2 := by omega
    have y5 : ((k : Int) + 2).toNat = k + 2 := by omega
    go_enter Tryz.func38, Tryz.ntmps38
    go_wp2
    have G0 := Lib.hid ((Chg.refl Nowhere w).alloc (.cells #[.int .i64 5, .int .i64 k] 52))
    have hz0 := Lib.hid (show (w.alloc (.cells #[.int .i64 5, .int .i64 k] 52)).heap.size = w.heap.size + 1 by simp)
    generalize (w.alloc (.cells #[.int .i64 5, .int .i64 k] 52)) = w1 at *
    go_still_tail 10, (by kernel_rfl)
    go_wp2_with fail
    all_goals
      refine (concatOps_any _ (fun _ => True) (fun _ => True) _ [_, _] [xs.take k, xs.drop (k + 2)] rfl (Raw.up (Raw.of_block (heap_new_at rfl) rfl trivial rfl (by simp) (by omega)) (Chg.drew (Chg.refl _ _))) ?_ (by simp [sumLen]; omega)).mono ?_
      · intro i u y hu hy
        match i, hu, hy with
        | 0, hu, hy => injection hu with hu; injection hy with hy; subst hu hy; exact ((H.out.takes (k := k) (by omega) (by omega)).up (Chg.drew (Chg.alloc (Chg.refl _ _) _))).mono fun _ _ _ => trivial
        | 1, hu, hy => injection hu with hu; injection hy with hy; subst hu hy; exact ((H.out.drops (k := k + 2) (by omega) (by omega) (fun _ => by first | rfl | omega) (by simp)).up (Chg.drew (Chg.alloc (Chg.refl _ _) _))).mono fun _ _ _ => trivial
        | i + 2, hu, hy => simp at hu
      rintro e w4 ⟨v4, rfl, k4, g4⟩
      have hz1 := hz0.out
      have K4 := Lib.hid k4
      have G4 := Lib.hid g4
      clear k4 g4 hz0
      go_wp2
      go_ret
      refine ⟨_, rfl, ?_, Chg.trans (Chg.drew (Chg.alloc G0.out _)) G4.out⟩
      have h5 := K4.out.mono (T := New w.heap.size w4.heap.size) (fun b _ hb => ⟨by have := hb.1; simp at this; omega, hb.2⟩)
      simpa using h5
  have hn : takN r = 1 := by unfold takN; rw [if_neg (by omega)]
  have t4 : (r == 4) = false := by simpa using h4
  have t5 : (r == 5) = false := by simpa using h5
  rw [hn] at hk ⊢
  clear hn hn1
  have y1 : IntKind.i64.wrap ((k : Int) + 1) = (k : Int) + 1 := IntWalk.i64_in _ (by omega)
  have y2 : (k : Int) ≤ c := by omega
  have y3 : (k : Int) + 1 ≤ xs.length := by omega
  have y4 : 0 ≤ (k : Int) + 1 := by omega
  have y5 : ((k : Int) + 1).toNat = k + 1 := by omega
  go_enter Tryz.func38, Tryz.ntmps38
  go_wp2
  have G0 := Lib.hid ((Chg.refl Nowhere w).alloc (.cells #[.int .i64 r, .int .i64 k] 52))
  have hz0 := Lib.hid (show (w.alloc (.cells #[.int .i64 r, .int .i64 k] 52)).heap.size = w.heap.size + 1 by simp)
  generalize (w.alloc (.cells #[.int .i64 r, .int .i64 k] 52)) = w1 at *
  go_still_tail 10, (by kernel_rfl)
  go_wp2_with fail
  all_goals
    refine (concatOps_any _ (fun _ => True) (fun _ => True) _ [_, _] [xs.take k, xs.drop (k + 1)] rfl (Raw.up (Raw.of_block (heap_new_at rfl) rfl trivial rfl (by simp) (by omega)) (Chg.drew (Chg.refl _ _))) ?_ (by simp [sumLen]; omega)).mono ?_
    · intro i u y hu hy
      match i, hu, hy with
      | 0, hu, hy => injection hu with hu; injection hy with hy; subst hu hy; exact ((H.out.takes (k := k) (by omega) (by omega)).up (Chg.drew (Chg.alloc (Chg.refl _ _) _))).mono fun _ _ _ => trivial
      | 1, hu, hy => injection hu with hu; injection hy with hy; subst hu hy; exact ((H.out.drops (k := k + 1) (by omega) (by omega) (fun _ => by first | rfl | omega) (by simp)).up (Chg.drew (Chg.alloc (Chg.refl _ _) _))).mono fun _ _ _ => trivial
      | i + 2, hu, hy => simp at hu
    rintro e w4 ⟨v4, rfl, k4, g4⟩
    have hz1 := hz0.out
    have K4 := Lib.hid k4
    have G4 := Lib.hid g4
    clear k4 g4 hz0
    go_wp2
    go_ret
    refine ⟨_, rfl, ?_, Chg.trans (Chg.drew (Chg.alloc G0.out _)) G4.out⟩
    have h5 := K4.out.mono (T := New w.heap.size w4.heap.size) (fun b _ hb => ⟨by have := hb.1; simp at this; omega, hb.2⟩)
    simpa using h5
theorem l25Apply_any (w : World) (S : Nat → Prop) (hS : ∀ x, S x → x < w.heap.size) (v : Value) (xs : List OpM) (h : Ops w S v xs) (r : Int) (k : Nat) (hk : k + takN r ≤ xs.length) (hlen : xs.length ≤ 1000000) :
    Calls Tryz.prog 33 #[v, .agg #[.int .i64 r, .int .i64 k]] w fun e w' => ∃ v', e = .returned v' ∧ Ops w' (New w.heap.size w'.heap.size) v' (xs.take k ++ xs.drop (k + takN r)) ∧ Up w w' := by
  obtain ⟨A, c, rfl, hlc, hcm, -⟩ := h.1.shape
  have hn1 : 1 ≤ takN r := by unfold takN; split <;> omega
  obtain ⟨b, o, rfl⟩ : ∃ b o, A = some ⟨b, o, none⟩ := by
    obtain ⟨b, o, c', he, -⟩ := h.at_ (i := 0) (by omega)
    exact ⟨b, o, by injection he⟩
  have H := Lib.hid (h.up ((Chg.refl Nowhere w).alloc (.cells #[.int .i64 r, .int .i64 k] 52)))
  have c0 : (w.alloc (.cells #[.int .i64 r, .int .i64 k] 52)).cell? ⟨w.heap.size, 0, none⟩ = some (.int .i64 r) := cell_new _ _ _ _
  have c1 : (w.alloc (.cells #[.int .i64 r, .int .i64 k] 52)).cell? ⟨w.heap.size, 1, none⟩ = some (.int .i64 k) := cell_new _ _ _ _
  have HS := Lib.hid hS
  clear h hS
  by_cases h4 : r = 4
  · subst h4
    have hn : takN 4 = 2 := rfl
    rw [hn] at hk ⊢
    clear hn hn1
    have y1 : IntKind.i64.wrap ((k : Int) + 2) = (k : Int) + 2 := IntWalk.i64_in _ (by omega)
    have y2 : (k : Int) ≤ c := by omega
    have y3 : (k : Int) + 2 ≤ xs.length := by omega
    have y4 : 0 ≤ (k : Int) + 2 := by omega
    have y5 : ((k : Int) + 2).toNat = k + 2 := by omega
    go_enter Tryz.func33, Tryz.ntmps33
    have hz0 := Lib.hid (show (w.alloc (.cells #[.int .i64 4, .int .i64 k] 52)).heap.size = w.heap.size + 1 by simp)
    have c1' := Lib.hid c1
    have HT := Lib.hid (H.out.mono (T := fun x => x < w.heap.size) fun x _ hx => HS.out x hx)
    have HO0 := Lib.hid (show OwnO ((w.alloc (.cells #[.int .i64 4, .int .i64 k] 52)).alloc (.cells #[] 44)) (w.heap.size + 1) (.slice (some ⟨w.heap.size + 1, 0, none⟩) 0 0) [] by have h := OwnO.made (w.alloc (.cells #[.int .i64 4, .int .i64 k] 52)) (w.heap.size + 1) (by simp); rw [hz0.out] at h; exact h)
    have HB0 := Lib.hid (show w.heap.size + 1 ≤ ((w.alloc (.cells #[.int .i64 4, .int .i64 k] 52)).alloc (.cells #[] 44)).heap.size by simp)
    clear c0 c1
    go_wp2_with (first | (at_builtin; refine wp_append_ops rfl _ _ rfl (w.heap.size + 1) _ [] rfl HO0.out (fun x => x < w.heap.size) _ (xs.take k) rfl ((HT.out.takes (k := k) (by omega) rfl).up (Chg.alloc (Chg.refl _ _) _)) ?_ HB0.out ?_; (first | (simp; done) | (simp; omega)); intro v3 w3 ho3 _ hg3; have HO3 := Lib.hid ho3; have HG3 := Lib.hid (Chg.trans (Chg.of_up ((Chg.refl Nowhere (w.alloc (.cells #[.int .i64 4, .int .i64 k] 52))).alloc (.cells #[] 44))) hg3); have C1 := Chg.cell HG3.out c1'.out (by simp); have H3 := Lib.hid (HT.out.keep HG3.out (fun x _ hx h2 => by (have hx : x < w.heap.size := hx); (have h2 : w.heap.size + 1 ≤ x := h2); omega)); have hz3 := Lib.hid (Nat.le_trans (Nat.le_of_eq hz0.out.symm) HG3.out.size); clear ho3 hg3) | (at_builtin; refine wp_append_ops rfl _ _ rfl (w.heap.size + 1) _ (xs.take k) rfl HO3.out (fun x => x < w.heap.size) _ (xs.drop (k + 2)) rfl (H3.out.drops (k := k + 2) (by omega) (by omega) (fun _ => by first | rfl | (rw [if_neg (by omega)]) | omega) (by first | (simp; done) | (split <;> simp))) ?_ hz3.out ?_; (first | (simp; done) | (simp; omega)); intro v4 w4 ho4 _ hg4; have HO4 := Lib.hid ho4; have HG4 := Lib.hid (Chg.trans HG3.out hg4); clear ho4 hg4))
    all_goals
      go_ret
      exact ⟨_, rfl, HO4.out.ops.mono (fun b _ hb => ⟨by have := hb.1; omega, hb.2⟩), Chg.new ((Chg.refl Nowhere w).alloc _) HG4.out (fun i hi h2 => by have h2 : w.heap.size + 1 ≤ i := h2; omega)⟩
  by_cases h5 : r = 5
  · subst h5
    have hn : takN 5 = 2 := rfl
    rw [hn] at hk ⊢
    clear hn hn1
    have y1 : IntKind.i64.wrap ((k : Int) + 2) = (k : Int) + 2 := IntWalk.i64_in _ (by omega)
    have y2 : (k : Int) ≤ c := by omega
    have y3 : (k : Int) + 2 ≤ xs.length := by omega
    have y4 : 0 ≤ (k : Int) + 2 := by omega
    have y5 : ((k : Int) + 2).toNat = k + 2 := by omega
    go_enter Tryz.func33, Tryz.ntmps33
    have hz0 := Lib.hid (show (w.alloc (.cells #[.int .i64 5, .int .i64 k] 52)).heap.size = w.heap.size + 1 by simp)
    have c1' := Lib.hid c1
    have HT := Lib.hid (H.out.mono (T := fun x => x < w.heap.size) fun x _ hx => HS.out x hx)
    have HO0 := Lib.hid (show OwnO ((w.alloc (.cells #[.int .i64 5, .int .i64 k] 52)).alloc (.cells #[] 44)) (w.heap.size + 1) (.slice (some ⟨w.heap.size + 1, 0, none⟩) 0 0) [] by have h := OwnO.made (w.alloc (.cells #[.int .i64 5, .int .i64 k] 52)) (w.heap.size + 1) (by simp); rw [hz0.out] at h; exact h)
    have HB0 := Lib.hid (show w.heap.size + 1 ≤ ((w.alloc (.cells #[.int .i64 5, .int .i64 k] 52)).alloc (.cells #[] 44)).heap.size by simp)
    clear c0 c1
    go_wp2_with (first | (at_builtin; refine wp_append_ops rfl _ _ rfl (w.heap.size + 1) _ [] rfl HO0.out (fun x => x < w.heap.size) _ (xs.take k) rfl ((HT.out.takes (k := k) (by omega) rfl).up (Chg.alloc (Chg.refl _ _) _)) ?_ HB0.out ?_; (first | (simp; done) | (simp; omega)); intro v3 w3 ho3 _ hg3; have HO3 := Lib.hid ho3; have HG3 := Lib.hid (Chg.trans (Chg.of_up ((Chg.refl Nowhere (w.alloc (.cells #[.int .i64 5, .int .i64 k] 52))).alloc (.cells #[] 44))) hg3); have C1 := Chg.cell HG3.out c1'.out (by simp); have H3 := Lib.hid (HT.out.keep HG3.out (fun x _ hx h2 => by (have hx : x < w.heap.size := hx); (have h2 : w.heap.size + 1 ≤ x := h2); omega)); have hz3 := Lib.hid (Nat.le_trans (Nat.le_of_eq hz0.out.symm) HG3.out.size); clear ho3 hg3) | (at_builtin; refine wp_append_ops rfl _ _ rfl (w.heap.size + 1) _ (xs.take k) rfl HO3.out (fun x => x < w.heap.size) _ (xs.drop (k + 2)) rfl (H3.out.drops (k := k + 2) (by omega) (by omega) (fun _ => by first | rfl | (rw [if_neg (by omega)]) | omega) (by first | (simp; done) | (split <;> simp))) ?_ hz3.out ?_; (first | (simp; done) | (simp; omega)); intro v4 w4 ho4 _ hg4; have HO4 := Lib.hid ho4; have HG4 := Lib.hid (Chg.trans HG3.out hg4); clear ho4 hg4))
    all_goals
      go_ret
      exact ⟨_, rfl, HO4.out.ops.mono (fun b _ hb => ⟨by have := hb.1; omega, hb.2⟩), Chg.new ((Chg.refl Nowhere w).alloc _) HG4.out (fun i hi h2 => by have h2 : w.heap.size + 1 ≤ i := h2; omega)⟩
  have hn : takN r = 1 := by unfold takN; rw [if_neg (by omega)]
  have t4 : (r == 4) = false := by simpa using h4
  have t5 : (r == 5) = false := by simpa using h5
  rw [hn] at hk ⊢
  clear hn hn1
  have y1 : IntKind.i64.wrap ((k : Int) + 1) = (k : Int) + 1 := IntWalk.i64_in _ (by omega)
  have y2 : (k : Int) ≤ c := by omega
  have y3 : (k : Int) + 1 ≤ xs.length := by omega
  have y4 : 0 ≤ (k : Int) + 1 := by omega
  have y5 : ((k : Int) + 1).toNat = k + 1 := by omega
  go_enter Tryz.func33, Tryz.ntmps33
  have hz0 := Lib.hid (show (w.alloc (.cells #[.int .i64 r, .int .i64 k] 52)).heap.size = w.heap.size + 1 by simp)
  have c1' := Lib.hid c1
  have HT := Lib.hid (H.out.mono (T := fun x => x < w.heap.size) fun x _ hx => HS.out x hx)
  have HO0 := Lib.hid (show OwnO ((w.alloc (.cells #[.int .i64 r, .int .i64 k] 52)).alloc (.cells #[] 44)) (w.heap.size + 1) (.slice (some ⟨w.heap.size + 1, 0, none⟩) 0 0) [] by have h := OwnO.made (w.alloc (.cells #[.int .i64 r, .int .i64 k] 52)) (w.heap.size + 1) (by simp); rw [hz0.out] at h; exact h)
  have HB0 := Lib.hid (show w.heap.size + 1 ≤ ((w.alloc (.cells #[.int .i64 r, .int .i64 k] 52)).alloc (.cells #[] 44)).heap.size by simp)
  clear c0 c1
  go_wp2_with (first | (at_builtin; refine wp_append_ops rfl _ _ rfl (w.heap.size + 1) _ [] rfl HO0.out (fun x => x < w.heap.size) _ (xs.take k) rfl ((HT.out.takes (k := k) (by omega) rfl).up (Chg.alloc (Chg.refl _ _) _)) ?_ HB0.out ?_; (first | (simp; done) | (simp; omega)); intro v3 w3 ho3 _ hg3; have HO3 := Lib.hid ho3; have HG3 := Lib.hid (Chg.trans (Chg.of_up ((Chg.refl Nowhere (w.alloc (.cells #[.int .i64 r, .int .i64 k] 52))).alloc (.cells #[] 44))) hg3); have C1 := Chg.cell HG3.out c1'.out (by simp); have H3 := Lib.hid (HT.out.keep HG3.out (fun x _ hx h2 => by (have hx : x < w.heap.size := hx); (have h2 : w.heap.size + 1 ≤ x := h2); omega)); have hz3 := Lib.hid (Nat.le_trans (Nat.le_of_eq hz0.out.symm) HG3.out.size); clear ho3 hg3) | (at_builtin; refine wp_append_ops rfl _ _ rfl (w.heap.size + 1) _ (xs.take k) rfl HO3.out (fun x => x < w.heap.size) _ (xs.drop (k + 1)) rfl (H3.out.drops (k := k + 1) (by omega) (by omega) (fun _ => by first | rfl | (rw [if_neg (by omega)]) | omega) (by first | (simp; done) | (split <;> simp))) ?_ hz3.out ?_; (first | (simp; done) | (simp; omega)); intro v4 w4 ho4 _ hg4; have HO4 := Lib.hid ho4; have HG4 := Lib.hid (Chg.trans HG3.out hg4); clear ho4 hg4))
  all_goals
    go_ret
    exact ⟨_, rfl, HO4.out.ops.mono (fun b _ hb => ⟨by have := hb.1; omega, hb.2⟩), Chg.new ((Chg.refl Nowhere w).alloc _) HG4.out (fun i hi h2 => by have h2 : w.heap.size + 1 ≤ i := h2; omega)⟩
end Go.Proofs.YtiiodfcbpmkodaaGreat
set_option maxRecDepth 100000
set_option maxHeartbeats 1000000
namespace Go.Proofs.YtiiodfcbpmkodaaGreat
open Go.ChangeShapes Go.WideShapes Go.ChangeAt Go.RowKit
attribute [local go_sem ↓] Go.wp_at_zero Go.wp_at_succ
end Go.Proofs.YtiiodfcbpmkodaaGreat
set_option maxRecDepth 100000
set_option maxHeartbeats 1000000
namespace Go.Proofs.YtiiodfcbpmkodaaGreat
open Go.ChangeShapes Go.WideShapes Go.ChangeAt Go.RowKit
theorem cloneOps_any (w : World) (S : Nat → Prop) (v : Value) (xs : List OpM) (h : Ops w S v xs) (hl : xs.length ≤ 1000000) :
    Calls Tryz.prog 36 #[v] w fun e w' => ∃ v', e = .returned v' ∧ Ops w' (New w.heap.size w'.heap.size) v' xs ∧ Up w w' := by
  obtain ⟨A, c, rfl, hlc, hcm, hA⟩ := h.1.shape
  have q22 : ∀ (w : World) (a : Option Addr) (n c n' c' : Nat), (binOp .eql 27 (.slice a n c) (.slice none n' c')).run Tryz.prog w = .ok (.bool a.isNone) w := fun w a n c n' c' => Lib.run_eql_slice_nil w _ _ a n c n' c' Tryz.underlying27
  have H := Lib.hid h
  cases A with
  | none =>
    have hc := hA rfl
    subst hc
    obtain rfl : xs = [] := List.eq_nil_of_length_eq_zero (by omega)
    clear h
    go_enter Tryz.func36, Tryz.ntmps36
    go_wp2
    go_ret
    exact ⟨_, rfl, Ops.nil _ _ 0 none (by omega), Chg.refl _ _⟩
  | some a =>
    clear h
    have HO0 := Lib.hid (OwnO.made w w.heap.size (Nat.le_refl _))
    have HB0 := Lib.hid (show w.heap.size ≤ (w.alloc (.cells #[] 44)).heap.size by simp)
    go_enter Tryz.func36, Tryz.ntmps36
    go_wp2_with (at_builtin; refine wp_append_ops rfl _ _ rfl w.heap.size _ [] rfl HO0.out S _ xs rfl (H.out.up (Chg.alloc (Chg.refl _ _) _)) ?_ HB0.out ?_; (first | (simp; done) | (simp; omega)); intro v3 w3 ho3 _ hg3; have HO3 := Lib.hid ho3; have HG3 := Lib.hid hg3; clear ho3 hg3)
    go_ret
    exact ⟨_, rfl, by simpa using HO3.out.ops, Chg.new ((Chg.refl Nowhere w).alloc _) HG3.out (fun i hi h2 => by have h2 : w.heap.size ≤ i := h2; omega)⟩
end Go.Proofs.YtiiodfcbpmkodaaGreat
set_option maxRecDepth 100000
set_option maxHeartbeats 1000000
namespace Go.Proofs.YtiiodfcbpmkodaaGreat
open Go.ChangeShapes Go.WideShapes Go.ChangeAt Go.RowKit
attribute [local go_sem ↓] Go.wp_at_zero Go.wp_at_succ
def lenV : Value → Nat
  | .slice _ n _ => n
  | _ => 0
theorem ruleM_bd (m : MachM) (o n : OpM) : 0 ≤ ruleM m o n ∧ ruleM m o n ≤ 5 := by
  unfold ruleM
  repeat (first | omega | split)
theorem rulesM_i64 : ∀ (m : MachM) (ops : List OpM), ∀ x ∈ rulesM m ops, I64 x
  | _, [], x, h => by simp [rulesM] at h
  | m, o :: os, x, h => by
    unfold rulesM at h
    rcases List.mem_cons.1 h with rfl | h
    · have := ruleM_bd m o (os.headD opZ); unfold I64; omega
    · exact rulesM_i64 _ os x h
/-- what stands in a round: a program, the savings so far -/
structure OptR (n : Int) (xs cur : List OpM) (sv : List (Int × Nat)) : Prop where
  all : optA n xs = ((optA n cur).1, sv ++ (optA n cur).2)
  ok : okOpsB n cur = true
  run : runM (newM n) cur = 0
  len : sv.length + cur.length ≤ xs.length
theorem OptR.start {n : Int} {xs : List OpM} (h1 : okOpsB n xs = true) (h2 : runM (newM n) xs = 0) : OptR n xs xs [] := ⟨by simp, h1, h2, by simp⟩
theorem OptR.stop {n : Int} {xs cur : List OpM} {sv : List (Int × Nat)} (h : OptR n xs cur sv) (h0 : (firstM n cur).1 = 0) : (optA n xs).1 = cur ∧ (optA n xs).2 = sv := by
  rw [h.all, optA_stop h0]; simp
theorem OptR.next {n : Int} {xs cur : List OpM} {sv : List (Int × Nat)} (h : OptR n xs cur sv) (h0 : (firstM n cur).1 ≠ 0) : OptR n xs (cutM cur (firstM n cur).1 (firstM n cur).2) (sv ++ [firstM n cur]) := by
  obtain ⟨h1, h2⟩ := cut_ok h.ok h.run h0
  refine ⟨by rw [h.all, optA_step h0]; simp, h1, h2, ?_⟩
  have := h.len
  have hc : (cutM cur (firstM n cur).1 (firstM n cur).2).length < cur.length := cutM_lt (firstM_lt h0).1
  simp; omega
theorem savL_append (a b : List (Int × Nat)) : savL (a ++ b) = savL a ++ savL b := by simp [savL]
theorem optimized_any (w : World) (S : Nat → Prop) (v : Value) (xs : List OpM) (h : Ops w S v xs) (n : Int) (hok : okOpsB n xs = true) (hrun : runM (newM n) xs = 0) :
    Calls Tryz.prog 23 #[.int .i64 n, v] w fun e w' => ∃ v1 v2, e = .returned (.tuple #[v1, v2]) ∧ Ops w' (New w.heap.size w'.heap.size) v1 (optA n xs).1 ∧ Savs w' (New w.heap.size w'.heap.size) v2 (savL (optA n xs).2) ∧ Up w w' := by
  obtain ⟨A, c, rfl, hlc, hcm, -⟩ := h.1.shape
  obtain ⟨hall0, hn0, hlen0⟩ := okOpsB_of hok
  have H := Lib.hid h
  have H0 := Lib.hid (OptR.start hok hrun)
  clear h hok hrun hall0 hn0
  go_enter Tryz.func23, Tryz.ntmps23
  go_wp2_with fail
  refine (cloneOps_any _ _ _ xs H.out (by omega)).mono ?_
  rintro e w1 ⟨v1, rfl, k1, g1⟩
  obtain ⟨A1, c1, rfl, hl1, hc1, -⟩ := k1.1.shape
  have K1 := Lib.hid k1
  have G1 := Lib.hid g1
  have hz1 := g1.size
  clear k1 g1
  go_wp2
  go_loopw [6, 7] (fun q l wr => ∃ cur sv l0, l0 = l ∧ Hid (Ops wr (fun b => w.heap.size ≤ b ∧ ¬ l.ownBlock = some b) q cur) ∧ Hid (OwnSavs wr w.heap.size l (savL sv)) ∧ Hid (OptR n xs cur sv) ∧ Hid (Up w wr)) (fun q _ _ => lenV q)
  case atStart =>
    refine ⟨xs, [], _, rfl, (K1.out.alloc' _).mono fun b hb h => ⟨h.1, fun e => ?_⟩, OwnSavs.made _ _ hz1, H0.out, G1.out.alloc _⟩
    have e : w1.heap.size = b := by simpa [Value.ownBlock] using e
    have := h.2; omega
  case round =>
    obtain ⟨cur, sv, l, el, hq, hl, hr, hu⟩ := hrel
    subst el
    obtain ⟨A1, c1, rfl, hl1, hc1, -⟩ := hq.out.1.shape
    have HLEN := Lib.hid hr.out.len
    have hzr := Lib.hid hu.out.size
    have HQ := Lib.hid (hq.out.mono (T := fun b => b < wr.heap.size) fun _ h _ => h)
    obtain ⟨hall9, hn9, hlen9⟩ := okOpsB_of hr.out.ok
    obtain ⟨r, HR⟩ : ∃ r, Hid ((firstM n cur).1 = r) := ⟨_, Lib.hid rfl⟩
    obtain ⟨k, HK⟩ : ∃ k, Hid ((firstM n cur).2 = k) := ⟨_, Lib.hid rfl⟩
    clear hall9 hn9
    go_wp2_with fail
    refine (nextSaving_any _ (fun b => b < wr.heap.size) (fun _ h => h) _ cur HQ.out n hr.out.ok hr.out.run).mono ?_
    rintro e w2 ⟨rfl, g2⟩
    rw [HR.out, HK.out]
    obtain ⟨c0, d0⟩ := box2 w2 (.int .i64 r) (.int .i64 k) 52
    have G3 := Lib.hid (Chg.alloc g2 (.cells #[.int .i64 r, .int .i64 k] 52))
    have hz2 := Lib.hid g2.size
    clear g2
    by_cases h0 : r = 0
    · have t3 : decide (r ≠ 0) = false := by simpa using h0
      have HST := Lib.hid (hr.out.stop (HR.out.trans h0))
      rw [t3]
      clear t3 h0
      go_wp2
      go_ret2
      refine ⟨_, _, rfl, ?_, ?_, Chg.trans hu.out G3.out⟩
      · rw [HST.out.1]
        exact (hq.out.up G3.out).mono fun b hb h => ⟨h.1, hb⟩
      · rw [HST.out.2]
        exact (hl.out.up G3.out).rd
    have t3 : decide (r ≠ 0) = true := by simpa using h0
    have hne : (firstM n cur).1 ≠ 0 := by rw [HR.out]; exact h0
    have HN : Hid (OptR n xs (cutM cur r k) (sv ++ [(r, k)])) := Lib.hid (by have h := hr.out.next hne; rw [HR.out, HK.out, show firstM n cur = (r, k) from Prod.ext HR.out HK.out] at h; exact h)
    have HRM := Lib.hid (rule_room (m := newM n) (firstM_lt hne).1 _ (firstM_lt hne).2)
    rw [HR.out, HK.out] at HRM
    have HLT := Lib.hid ((firstM_lt hne).1)
    rw [HK.out] at HLT
    have HY : Hid (SavM.ok ⟨r, k⟩) := Lib.hid (by
      refine ⟨?_, ?_⟩
      · show I64 r; rw [← HR.out]; exact firstI_i64 _ (rulesM_i64 _ _)
      · show I64 (k : Int); have := HLT.out; unfold I64; omega)
    have HL2 := Lib.hid (hl.out.up G3.out)
    have HQ2 := Lib.hid (hq.out.up G3.out)
    have HSL : Hid ((savL sv).length ≤ 1099511627775) := Lib.hid (by have := HLEN.out; simp [savL]; omega)
    have HB2 : Hid (w.heap.size ≤ ((w2.alloc (.cells #[.int .i64 r, .int .i64 k] 52)).alloc (.cells #[.int .i64 r, .int .i64 k] 52)).heap.size) := Lib.hid (by have := hzr.out; have := hz2.out; simp; omega)
    have HH : Hid (((w2.alloc (.cells #[.int .i64 r, .int .i64 k] 52)).alloc (.cells #[.int .i64 r, .int .i64 k] 52)).heap[w2.heap.size + 1]? = some (.cells (SavM.cells ⟨r, k⟩).toArray 52 (0, 0))) := Lib.hid (by have h := heap_alloc_new (w2.alloc (.cells #[.int .i64 r, .int .i64 k] 52)) (.cells #[.int .i64 r, .int .i64 k] 52); rw [show (w2.alloc (.cells #[.int .i64 r, .int .i64 k] 52)).heap.size = w2.heap.size + 1 by simp] at h; exact h)
    have hnl : ∀ g, l.ownBlock = some g → g < wr.heap.size := fun g hg => (hl.out.lt hg).2
    have HNL := Lib.hid hnl
    have C0 := Lib.hid c0
    have D0 := Lib.hid d0
    rw [t3]
    clear t3 hnl hne h0
    clear c0 d0
    go_wp2_with (at_builtin; refine wp_append1Savs rfl _ _ rfl w.heap.size _ (savL sv) rfl (HL2.out.alloc _) _ ⟨r, k⟩ rfl HH.out HY.out HSL.out HB2.out ?_; intro v3 w3 ho3 hg3 _; have HO3 := Lib.hid ho3; have HG3 := Lib.hid ((Chg.refl (fun b => l.ownBlock = some b) _).grown hg3 (fun k hk => .inl hk)); have hna : ¬ (l.ownBlock = some w2.heap.size) := fun e => absurd (HNL.out _ e) (Nat.not_lt.2 hz2.out); have C1 := Chg.cell HG3.out (Chg.cell ((Chg.refl Nowhere _).alloc _) C0.out id) hna; have D1 := Chg.cell HG3.out (Chg.cell ((Chg.refl Nowhere _).alloc _) D0.out id) hna; have HQ3 := Lib.hid ((HQ2.out.alloc' _).keep HG3.out (fun b _ h1 h2 => h1.2 h2)); have HU3 := Lib.hid ((Chg.alloc (Chg.trans hu.out G3.out) (.cells #[.int .i64 r, .int .i64 k] 52))); clear ho3 hg3 hna)
    have hz3 := HG3.out.size
    have HU4 : Hid (Up w w3) := Lib.hid (Chg.new HU3.out HG3.out (fun i hi e => by have h := (hl.out.lt e).1; omega))
    refine (without_any _ _ _ cur HQ3.out r k HRM.out (by omega)).mono ?_
    rintro e w4 ⟨v4, rfl, k4, g4⟩
    have K4 := Lib.hid k4
    have G4 := Lib.hid g4
    have hz34 := g4.size
    clear k4 g4 C1 D1
    go_wp2
    go_roundw
    case rel =>
      refine ⟨cutM cur r k, sv ++ [(r, k)], _, rfl, K4.out.mono fun b hb h => ⟨?_, fun e => ?_⟩, ?_, HN.out, Chg.trans HU4.out G4.out⟩
      · have := h.1; have := HU4.out.size; omega
      · have h1 := (HO3.out.lt e).2; have := h.1; omega
      · rw [savL_append]; exact HO3.out.up G4.out
    case measure =>
      obtain ⟨A6, c6, rfl, -⟩ := K4.out.1.shape
      have := HN.out.len
      have h9 := HLT.out
      have hcl : (cutM cur r k).length < cur.length := cutM_lt h9
      show (cutM cur r k).length < cur.length
      exact hcl
theorem l25All_any (w : World) (S : Nat → Prop) (v : Value) (xs : List OpM) (h : Ops w S v xs) (n : Int) (hok : okOpsB n xs = true) (hrun : runM (newM n) xs = 0) :
    Calls Tryz.prog 20 #[.int .i64 n, v] w fun e w' => ∃ v1 v2, e = .returned (.tuple #[v1, v2]) ∧ Ops w' (New w.heap.size w'.heap.size) v1 (optA n xs).1 ∧ Savs w' (New w.heap.size w'.heap.size) v2 (savL (optA n xs).2) ∧ Up w w' := by
  obtain ⟨A, c, rfl, hlc, hcm, -⟩ := h.1.shape
  obtain ⟨hall0, hn0, hlen0⟩ := okOpsB_of hok
  have H := Lib.hid h
  have H0 := Lib.hid (OptR.start hok hrun)
  clear h hok hrun hall0 hn0
  go_enter Tryz.func20, Tryz.ntmps20
  have HS0 := Lib.hid (OwnSavs.made w w.heap.size (Nat.le_refl _))
  have hs0 : (w.alloc (.cells #[] 52)).heap.size = w.heap.size + 1 := by simp
  have HO0 := Lib.hid (show OwnO ((w.alloc (.cells #[] 52)).alloc (.cells #[] 44)) (w.heap.size + 1) (.slice (some ⟨w.heap.size + 1, 0, none⟩) 0 0) [] by have h := OwnO.made (w.alloc (.cells #[] 52)) (w.heap.size + 1) (by omega); rw [hs0] at h; exact h)
  have HB0 := Lib.hid (show w.heap.size + 1 ≤ ((w.alloc (.cells #[] 52)).alloc (.cells #[] 44)).heap.size by simp)
  clear hs0
  go_wp2_with (at_builtin; refine wp_append_ops rfl _ _ rfl (w.heap.size + 1) _ [] rfl HO0.out S _ xs rfl (H.out.up (Chg.alloc (Chg.alloc (Chg.refl _ _) _) _)) (by simp; omega) HB0.out ?_; intro v1 w1 ho1 _ hg1; have HO1 := Lib.hid ho1; have HG1 := Lib.hid (Chg.trans (Chg.of_up ((Chg.refl Nowhere (w.alloc (.cells #[] 52))).alloc (.cells #[] 44))) hg1); clear ho1 hg1)
  have K1 : Hid (Ops w1 (New (w.heap.size + 1) w1.heap.size) v1 xs) := Lib.hid (by have h := HO1.out.ops; rwa [List.nil_append] at h)
  have hz1 := HG1.out.size
  have HS1 := Lib.hid (HS0.out.kept HG1.out (fun g e h => by (have e : w.heap.size = g := by simpa [Value.ownBlock] using e); (have h : w.heap.size + 1 ≤ g := h); omega))
  have G1 := Lib.hid (Chg.new ((Chg.refl Nowhere w).alloc (.cells #[] 52)) HG1.out (fun i hi h => by have h : w.heap.size + 1 ≤ i := h; omega) : Up w w1)
  obtain ⟨A1, c1, rfl, hl1, hc1, -⟩ := K1.out.1.shape
  go_loopw [6, 7] (fun l q wr => ∃ cur sv l0, l0 = l ∧ Hid (Ops wr (fun b => w.heap.size ≤ b ∧ ¬ l.ownBlock = some b) q cur) ∧ Hid (OwnSavs wr w.heap.size l (savL sv)) ∧ Hid (OptR n xs cur sv) ∧ Hid (Up w wr)) (fun _ q _ => lenV q)
  case atStart =>
    refine ⟨xs, [], _, rfl, (K1.out).mono fun b hb h => ⟨by have := h.1; omega, fun e => ?_⟩, HS1.out, H0.out, G1.out⟩
    have e : w.heap.size = b := by simpa [Value.ownBlock] using e
    have := h.1; omega
  case round =>
    obtain ⟨cur, sv, l, el, hq, hl, hr, hu⟩ := hrel
    subst el
    obtain ⟨A1, c1, rfl, hl1, hc1, -⟩ := hq.out.1.shape
    have HLEN := Lib.hid hr.out.len
    have hzr := Lib.hid hu.out.size
    have HQ := Lib.hid (hq.out.mono (T := fun b => b < wr.heap.size) fun _ h _ => h)
    obtain ⟨hall9, hn9, hlen9⟩ := okOpsB_of hr.out.ok
    obtain ⟨r, HR⟩ : ∃ r, Hid ((firstM n cur).1 = r) := ⟨_, Lib.hid rfl⟩
    obtain ⟨k, HK⟩ : ∃ k, Hid ((firstM n cur).2 = k) := ⟨_, Lib.hid rfl⟩
    clear hall9 hn9
    go_wp2_with fail
    refine (l25Rules_any _ _ _ cur HQ.out n).mono ?_
    rintro e w1 ⟨v1, rfl, k1, g1⟩
    have hoc : optCode n cur = 0 := by unfold optCode; rw [if_pos hr.out.ok]; exact hr.out.run
    rw [rulesOut_ok hoc] at k1
    obtain ⟨A5, c5, rfl, hl5, hc5, -⟩ := k1.shape
    have K5 := Lib.hid k1
    have G1 := Lib.hid g1
    rw [hoc]
    clear k1 g1 hoc
    go_wp2_with fail
    refine (l25First_any _ _ _ (rulesM (newM n) cur) K5.out).mono ?_
    rintro e w2 ⟨rfl, g2⟩
    rw [show firstI (rulesM (newM n) cur) 0 = firstM n cur from rfl]
    replace g2 := Chg.trans G1.out g2
    clear G1 K5
    rw [HR.out, HK.out]
    obtain ⟨c0, d0⟩ := box2 w2 (.int .i64 r) (.int .i64 k) 52
    have G3 := Lib.hid (Chg.alloc g2 (.cells #[.int .i64 r, .int .i64 k] 52))
    have hz2 := Lib.hid g2.size
    clear g2
    by_cases h0 : r = 0
    · have t3 : decide (r ≠ 0) = false := by simpa using h0
      have HST := Lib.hid (hr.out.stop (HR.out.trans h0))
      rw [t3]
      clear t3 h0
      go_wp2
      go_ret2
      refine ⟨_, _, rfl, ?_, ?_, Chg.trans hu.out G3.out⟩
      · rw [HST.out.1]
        exact (hq.out.up G3.out).mono fun b hb h => ⟨h.1, hb⟩
      · rw [HST.out.2]
        exact (hl.out.up G3.out).rd
    have t3 : decide (r ≠ 0) = true := by simpa using h0
    have hne : (firstM n cur).1 ≠ 0 := by rw [HR.out]; exact h0
    have HN : Hid (OptR n xs (cutM cur r k) (sv ++ [(r, k)])) := Lib.hid (by have h := hr.out.next hne; rw [HR.out, HK.out, show firstM n cur = (r, k) from Prod.ext HR.out HK.out] at h; exact h)
    have HRM := Lib.hid (rule_room (m := newM n) (firstM_lt hne).1 _ (firstM_lt hne).2)
    rw [HR.out, HK.out] at HRM
    have HLT := Lib.hid ((firstM_lt hne).1)
    rw [HK.out] at HLT
    have HY : Hid (SavM.ok ⟨r, k⟩) := Lib.hid (by
      refine ⟨?_, ?_⟩
      · show I64 r; rw [← HR.out]; exact firstI_i64 _ (rulesM_i64 _ _)
      · show I64 (k : Int); have := HLT.out; unfold I64; omega)
    have HL2 := Lib.hid (hl.out.up G3.out)
    have HQ2 := Lib.hid (hq.out.up G3.out)
    have HSL : Hid ((savL sv).length ≤ 1099511627775) := Lib.hid (by have := HLEN.out; simp [savL]; omega)
    have HB2 : Hid (w.heap.size ≤ ((w2.alloc (.cells #[.int .i64 r, .int .i64 k] 52)).alloc (.cells #[.int .i64 r, .int .i64 k] 52)).heap.size) := Lib.hid (by have := hzr.out; have := hz2.out; simp; omega)
    have HH : Hid (((w2.alloc (.cells #[.int .i64 r, .int .i64 k] 52)).alloc (.cells #[.int .i64 r, .int .i64 k] 52)).heap[w2.heap.size + 1]? = some (.cells (SavM.cells ⟨r, k⟩).toArray 52 (0, 0))) := Lib.hid (by have h := heap_alloc_new (w2.alloc (.cells #[.int .i64 r, .int .i64 k] 52)) (.cells #[.int .i64 r, .int .i64 k] 52); rw [show (w2.alloc (.cells #[.int .i64 r, .int .i64 k] 52)).heap.size = w2.heap.size + 1 by simp] at h; exact h)
    have hnl : ∀ g, l.ownBlock = some g → g < wr.heap.size := fun g hg => (hl.out.lt hg).2
    have HNL := Lib.hid hnl
    have C0 := Lib.hid c0
    have D0 := Lib.hid d0
    rw [t3]
    clear t3 hnl hne h0
    clear c0 d0
    go_wp2_with (at_builtin; refine wp_append1Savs rfl _ _ rfl w.heap.size _ (savL sv) rfl (HL2.out.alloc _) _ ⟨r, k⟩ rfl HH.out HY.out HSL.out HB2.out ?_; intro v3 w3 ho3 hg3 _; have HO3 := Lib.hid ho3; have HG3 := Lib.hid ((Chg.refl (fun b => l.ownBlock = some b) _).grown hg3 (fun k hk => .inl hk)); have hna : ¬ (l.ownBlock = some w2.heap.size) := fun e => absurd (HNL.out _ e) (Nat.not_lt.2 hz2.out); have C1 := Chg.cell HG3.out (Chg.cell ((Chg.refl Nowhere _).alloc _) C0.out id) hna; have D1 := Chg.cell HG3.out (Chg.cell ((Chg.refl Nowhere _).alloc _) D0.out id) hna; have HQ3 := Lib.hid ((HQ2.out.alloc' _).keep HG3.out (fun b _ h1 h2 => h1.2 h2)); have HU3 := Lib.hid ((Chg.alloc (Chg.trans hu.out G3.out) (.cells #[.int .i64 r, .int .i64 k] 52))); clear ho3 hg3 hna)
    have hz3 := HG3.out.size
    have HU4 : Hid (Up w w3) := Lib.hid (Chg.new HU3.out HG3.out (fun i hi e => by have h := (hl.out.lt e).1; omega))
    refine (l25Apply_any _ (fun b => b < w3.heap.size) (fun _ h => h) _ cur (HQ3.out.mono fun b hb _ => hb) r k HRM.out (by omega)).mono ?_
    rintro e w4 ⟨v4, rfl, k4, g4⟩
    have K4 := Lib.hid k4
    have G4 := Lib.hid g4
    have hz34 := g4.size
    clear k4 g4 C1 D1
    go_wp2
    go_roundw
    case rel =>
      refine ⟨cutM cur r k, sv ++ [(r, k)], _, rfl, K4.out.mono fun b hb h => ⟨?_, fun e => ?_⟩, ?_, HN.out, Chg.trans HU4.out G4.out⟩
      · have := h.1; have := HU4.out.size; omega
      · have h1 := (HO3.out.lt e).2; have := h.1; omega
      · rw [savL_append]; exact HO3.out.up G4.out
    case measure =>
      obtain ⟨A6, c6, rfl, -⟩ := K4.out.1.shape
      have := HN.out.len
      have h9 := HLT.out
      have hcl : (cutM cur r k).length < cur.length := cutM_lt h9
      show (cutM cur r k).length < cur.length
      exact hcl
end Go.Proofs.YtiiodfcbpmkodaaGreat
set_option maxRecDepth 100000
set_option maxHeartbeats 1000000
namespace Go.Proofs.YtiiodfcbpmkodaaGreat
open Go.ChangeShapes Go.WideShapes Go.ChangeAt Go.RowKit
attribute [local go_sem ↓] Go.wp_at_zero Go.wp_at_succ
end Go.Proofs.YtiiodfcbpmkodaaGreat
namespace Go.Proofs.YtiiodfcbpmkodaaGreat
open Go.ChangeShapes Go.WideShapes Go.ChangeAt Go.RowKit
def cntK (xs : List OpM) (k : Int) : Int := ((xs.filter fun x => x.kind == k).length : Int)
def countsM (xs : List OpM) : List Int := (List.range 9).map fun t : Nat => cntK xs ((t : Int) + 1)
theorem cntK_take {xs : List OpM} {j : Nat} (h : j < xs.length) (k : Int) : cntK (xs.take (j + 1)) k = cntK (xs.take j) k + if xs[j].kind = k then 1 else 0 := by
  unfold cntK
  rw [List.take_succ_eq_append_getElem h, List.filter_append, List.length_append]
  by_cases e : xs[j].kind = k <;> simp [e]
theorem cntK_bd (xs : List OpM) (k : Int) : 0 ≤ cntK xs k ∧ cntK xs k ≤ xs.length := by
  unfold cntK
  have := List.length_filter_le (fun x : OpM => x.kind == k) xs
  omega
theorem validB_kind {x : OpM} (h : validB x = true) : 1 ≤ x.kind ∧ x.kind ≤ 9 := by
  rcases Int.lt_or_le x.kind 1 with h1 | h1
  · exfalso; simp [validB, show ¬ x.kind = 1 by omega, show ¬ x.kind = 2 by omega, show ¬ x.kind = 3 by omega, show ¬ x.kind = 4 by omega, show ¬ x.kind = 5 by omega, show ¬ x.kind = 6 by omega, show ¬ x.kind = 7 by omega, show ¬ x.kind = 8 by omega, show ¬ x.kind = 9 by omega] at h
  · refine ⟨h1, ?_⟩
    rcases Int.lt_or_le 9 x.kind with h2 | h2
    · exfalso; simp [validB, show ¬ x.kind = 1 by omega, show ¬ x.kind = 2 by omega, show ¬ x.kind = 3 by omega, show ¬ x.kind = 4 by omega, show ¬ x.kind = 5 by omega, show ¬ x.kind = 6 by omega, show ¬ x.kind = 7 by omega, show ¬ x.kind = 8 by omega, show ¬ x.kind = 9 by omega] at h
    · exact h2
theorem countsM_length (xs : List OpM) : (countsM xs).length = 9 := by simp [countsM]
/-- the nine cells behind j operations -/
def Cnt9 (w : World) (g : Nat) (ys : List OpM) : Prop := g < w.heap.size ∧ ∀ t : Nat, t < 9 → w.cell? ⟨g, t, none⟩ = some (.int .i64 (cntK ys ((t : Int) + 1))) ∧ w.frozen? ⟨g, t, none⟩ = false
theorem Cnt9.up {w w' : World} {g : Nat} {ys : List OpM} (h : Cnt9 w g ys) (k : Up w w') : Cnt9 w' g ys :=
  ⟨Nat.lt_of_lt_of_le h.1 k.size, fun t ht => ⟨Chg.cell k (h.2 t ht).1 id, (Chg.frozen k (h.2 t ht).1 id).trans (h.2 t ht).2⟩⟩
theorem Cnt9.made (w : World) : Cnt9 (w.alloc (.cells (madeCells #[.int .i64 0] 9) 2)) w.heap.size [] :=
  ⟨by simp, fun t ht => ⟨by rw [cell_new, madeInts_get _ _ ht]; rfl, frozen_new _ _ _ _⟩⟩
theorem Cnt9.step {w : World} {g : Nat} {xs : List OpM} {j k : Nat} (h : Cnt9 w g (xs.take j)) (hj : j < xs.length) (hk : xs[j].kind = (k : Int) + 1) (hk9 : k < 9) :
    Cnt9 (w.setCell ⟨g, k, none⟩ (.int .i64 (cntK (xs.take j) ((k : Int) + 1) + 1))) g (xs.take (j + 1)) := by
  refine ⟨by simpa [World.setCell] using h.1, fun t ht => ?_⟩
  obtain ⟨h1, h2⟩ := h.2 t ht
  refine ⟨?_, by simpa using h2⟩
  rw [cntK_take hj, hk]
  by_cases e : t = k
  · subst e
    rw [World.cell?_setCell_same _ _ _ h1, if_pos rfl]
  · rw [World.cell?_setCell_other _ _ _ _ (fun hh => e (by injection hh with _ hh _; exact hh.symm)), h1, if_neg (by omega), Int.add_zero]
theorem Cnt9.ints {w : World} {g lo : Nat} {xs : List OpM} (h : Cnt9 w g xs) (hlo : lo ≤ g) (hl : xs.length ≤ 1000000000) : Ints w (New lo w.heap.size) (.slice (some ⟨g, 0, none⟩) 9 9) (countsM xs) := by
  have e : (9 : Nat) = (countsM xs).length := (countsM_length xs).symm
  have h0 := Ints.of_cells (w := w) (S := New lo w.heap.size) (g := g) (c := 9) (xs := countsM xs) ⟨hlo, h.1⟩ h.1 (by rw [countsM_length]; exact Nat.le_refl _) (by omega) (fun x hx => by
    obtain ⟨t, _, rfl⟩ := List.mem_map.1 hx
    have := cntK_bd xs ((t : Int) + 1)
    unfold I64
    omega) (fun t ht => by
    have ht9 : t < 9 := by rwa [countsM_length] at ht
    obtain ⟨h1, h2⟩ := h.2 t ht9
    exact ⟨by rw [h1]; simp [countsM], h2⟩)
  rw [countsM_length] at h0
  exact h0
end Go.Proofs.YtiiodfcbpmkodaaGreat
set_option maxRecDepth 100000
set_option maxHeartbeats 2000000
namespace Go.Proofs.YtiiodfcbpmkodaaGreat
open Go.ChangeShapes Go.WideShapes Go.ChangeAt Go.RowKit
attribute [local go_sem ↓] Go.wp_at_zero Go.wp_at_succ
theorem okOps_24 {n : Int} {xs : List OpM} (h : okOpsB n xs = true) : okOpsB 24 xs = true := by
  obtain ⟨h1, h2, h3⟩ := okOpsB_of h
  unfold okOpsB
  rw [Bool.and_eq_true, List.all_eq_true, Bool.and_eq_true]
  refine ⟨fun x hx => okOpB_iff.2 ?_, by unfold inB; decide, decide_eq_true h3⟩
  obtain ⟨a, b, c⟩ := h1 x hx
  exact ⟨a, by omega, by omega⟩
def cntAt (xs ys : List OpM) (j t : Nat) : Int := if t < j then cntK xs ((t : Int) + 1) - cntK ys ((t : Int) + 1) else cntK xs ((t : Int) + 1)
/-- the nine cells, of which j have been lessened -/
def Sub9 (w : World) (g : Nat) (xs ys : List OpM) (j : Nat) : Prop := g < w.heap.size ∧ ∀ t : Nat, t < 9 → w.cell? ⟨g, t, none⟩ = some (.int .i64 (cntAt xs ys j t)) ∧ w.frozen? ⟨g, t, none⟩ = false
theorem Sub9.start {w : World} {g : Nat} {xs : List OpM} (ys : List OpM) (h : Cnt9 w g xs) : Sub9 w g xs ys 0 := ⟨h.1, fun t ht => by rw [(h.2 t ht).1]; exact ⟨rfl, (h.2 t ht).2⟩⟩
theorem Sub9.drew {w : World} {g j : Nat} {xs ys : List OpM} (h : Sub9 w g xs ys j) : Sub9 w.drew g xs ys j := h
theorem Sub9.step {w : World} {g : Nat} {xs ys : List OpM} {j : Nat} (h : Sub9 w g xs ys j) (hj : j < 9) :
    Sub9 (w.setCell ⟨g, j, none⟩ (.int .i64 (cntK xs ((j : Int) + 1) - cntK ys ((j : Int) + 1)))) g xs ys (j + 1) := by
  refine ⟨by simpa [World.setCell] using h.1, fun t ht => ?_⟩
  obtain ⟨h1, h2⟩ := h.2 t ht
  refine ⟨?_, by simpa using h2⟩
  by_cases e : t = j
  · subst e
    rw [World.cell?_setCell_same _ _ _ h1]
    unfold cntAt
    rw [if_pos (by omega)]
  · rw [World.cell?_setCell_other _ _ _ _ (fun hh => e (by injection hh with _ hh _; exact hh.symm)), h1]
    unfold cntAt
    by_cases h3 : t < j
    · rw [if_pos h3, if_pos (by omega)]
    · rw [if_neg h3, if_neg (by omega)]
def savedM (xs ys : List OpM) : List Int := (List.range 9).map fun t : Nat => cntK xs ((t : Int) + 1) - cntK ys ((t : Int) + 1)
theorem savedM_length (xs ys : List OpM) : (savedM xs ys).length = 9 := by simp [savedM]
theorem Sub9.ints {w : World} {g lo : Nat} {xs ys : List OpM} (h : Sub9 w g xs ys 9) (hlo : lo ≤ g) (hl : xs.length ≤ 1000000) (hl2 : ys.length ≤ 1000000) : Ints w (New lo w.heap.size) (.slice (some ⟨g, 0, none⟩) 9 9) (savedM xs ys) := by
  have h0 := Ints.of_cells (w := w) (S := New lo w.heap.size) (g := g) (c := 9) (xs := savedM xs ys) ⟨hlo, h.1⟩ h.1 (by rw [savedM_length]; exact Nat.le_refl _) (by omega) (fun x hx => by
    obtain ⟨t, _, rfl⟩ := List.mem_map.1 hx
    have := cntK_bd xs ((t : Int) + 1)
    have := cntK_bd ys ((t : Int) + 1)
    unfold I64
    omega) (fun t ht => by
    have ht9 : t < 9 := by rwa [savedM_length] at ht
    obtain ⟨h1, h2⟩ := h.2 t ht9
    exact ⟨by rw [h1]; unfold cntAt; rw [if_pos ht9]; simp [savedM], h2⟩)
  rw [savedM_length] at h0
  exact h0
def savedOut (n : Int) (xs : List OpM) : List Int := if optCode n xs = 0 then savedM xs (optA n xs).1 else []
theorem savedOut_len (n : Int) (xs : List OpM) : (savedOut n xs).length ≤ 9 := by
  unfold savedOut
  split
  · rw [savedM_length]; exact Nat.le_refl _
  · simp
theorem optA_ok {n : Int} {xs : List OpM} (h1 : okOpsB n xs = true) (h2 : runM (newM n) xs = 0) : okOpsB n (optA n xs).1 = true := by
  suffices H : ∀ (f : Nat) (ops : List OpM), okOpsB n ops = true → runM (newM n) ops = 0 → okOpsB n (optM n f ops).1 = true from H _ _ h1 h2
  intro f
  induction f with
  | zero => intro ops a _; exact a
  | succ f ih =>
    intro ops a b
    unfold optM
    split
    · exact a
    · rename_i h0
      obtain ⟨c, d⟩ := cut_ok a b h0
      exact ih _ c d
theorem keepQ {w : World} {g i b j : Nat} {u v : Value} (h : w.cell? ⟨b, j, none⟩ = some u) (hn : g ≠ b) : (w.setCell ⟨g, i, none⟩ v).cell? ⟨b, j, none⟩ = some u := by
  rw [World.cell?_setCell_other _ _ _ _ (fun e => hn (by injection e))]
  exact h
theorem KindCounts_ok (w : World) (S : Nat → Prop) (v : Value) (xs : List OpM) (h : Ops w S v xs) (hok : okOpsB 24 xs = true) :
    Calls Tryz.prog 27 #[v] w fun e w' => ∃ g, e = .returned (.slice (some ⟨g, 0, none⟩) 9 9) ∧ w.heap.size ≤ g ∧ Cnt9 w' g xs ∧ Up w w' := by
  obtain ⟨A, c, rfl, hlc, hcm, -⟩ := h.1.shape
  obtain ⟨hall, -, hlen⟩ := okOpsB_of hok
  obtain ⟨i0, hi, hz0, hz1, hz2⟩ := info_parts info2
  have hmk : ∀ u : World, (Instr.makeSlice 34 (.int .i64 9) (.int .i64 9)).run Tryz.prog u =
      .ok (.slice (some ⟨u.heap.size, 0, none⟩) 9 9) (u.alloc (.cells (madeCells #[.int .i64 0] 9) 2)) := fun u => by
    have h := run_make (P := Tryz.prog) u 34 2 i0 (.int .i64 0) Tryz.underlying34 hi hz0 .i64 .i64 9 9 (by omega) (Int.le_refl _) (by rw [hz2]; omega) (by omega)
    simpa [hz1, Value.cells] using h
  clear hi hz0 hz1 hz2
  have H := Lib.hid h
  have HAL := Lib.hid hall
  have HOK := Lib.hid hok
  clear h hall hok
  go_enter Tryz.func27, Tryz.ntmps27
  go_wp2_with fail
  refine (validFor_any _ _ _ xs H.out 24 HOK.out).mono ?_
  rintro e w1 ⟨rfl, g1⟩
  have G1 := Lib.hid g1
  clear g1
  go_wp2
  have HM := Lib.hid hmk
  clear hmk
  go_loopw [12] (fun i wr => ∃ j : Nat, j ≤ xs.length ∧ i = .int .i64 j ∧ Hid (Cnt9 wr w1.heap.size (xs.take j)) ∧ Hid (Up w1 wr)) (fun i _ => xs.length - (intOf i).toNat)
  case atStart => exact ⟨0, by omega, rfl, Cnt9.made w1, (Chg.refl _ _).alloc _⟩
  case round =>
    obtain ⟨j, hj, rfl, hc9, hg⟩ := hrel
    by_cases hlt : j < xs.length
    · obtain ⟨b0, o0, c0, he0, hS0, hat0⟩ := (Ops.up H.out G1.out).opAt hlt
      obtain ⟨b, o, c', he, hS, hat⟩ := (Ops.up (Ops.up H.out G1.out) hg.out).opAt hlt
      obtain ⟨rfl, rfl⟩ : b = b0 ∧ o = o0 := by have := he.symm.trans he0; simp at this; exact this.1
      obtain ⟨rfl, rfl⟩ : A = some ⟨b, o, none⟩ ∧ c = c' := by simpa using he
      have hbw : b < w1.heap.size := hat0.1
      clear he he0 hat0
      obtain ⟨hbr, f0, f1, f2, f3, f4, f5, f6, f7⟩ := hat
      obtain ⟨x, hx⟩ : ∃ x, xs[j] = x := ⟨_, rfl⟩
      rw [hx] at f0 f1 f2 f3 f4 f5 f6 f7
      have HX := Lib.hid hx
      have hv : validB x = true := by rw [← hx]; exact (HAL.out _ (List.getElem_mem hlt)).1
      obtain ⟨k, hk⟩ : ∃ k : Nat, x.kind = (k : Int) + 1 := ⟨(x.kind - 1).toNat, by have := validB_kind hv; omega⟩
      have hk9 : k < 9 := by have := validB_kind hv; omega
      have hcb := cntK_bd (xs.take j) ((k : Int) + 1)
      have hjl : (xs.take j).length = j := by rw [List.length_take]; omega
      rw [hjl] at hcb
      have HK := Lib.hid hk
      clear hv hjl hk hx
      rw [HK.out] at f0
      have C2 := Lib.hid (hc9.out.up ((Chg.refl Nowhere wr).alloc (.cells #[.int .i64 ((k : Int) + 1), .int .i64 x.dir, .int .i64 x.fb, .int .i64 x.fa, .int .i64 x.tb, .int .i64 x.ta, .int .i64 x.car, .int .i64 x.rack] 44)))
      have q0 : (wr.alloc (.cells #[.int .i64 ((k : Int) + 1), .int .i64 x.dir, .int .i64 x.fb, .int .i64 x.fa, .int .i64 x.tb, .int .i64 x.ta, .int .i64 x.car, .int .i64 x.rack] 44)).cell? ⟨wr.heap.size, 0, none⟩ = some (.int .i64 ((k : Int) + 1)) := cell_new _ _ _ _
      obtain ⟨g1, g2⟩ := C2.out.2 k hk9
      have hne : wr.heap.size ≠ w1.heap.size := by have := hc9.out.1; omega
      go_wp2
      go_roundw
      case rel => exact ⟨j + 1, by omega, by go_num, C2.out.step hlt (by rw [HX.out]; exact HK.out) hk9, Chg.setCell (Chg.alloc hg.out _) (.inr (Nat.le_refl _)) _⟩
      case measure => first | (simp [intOf]; done) | (simp [intOf]; omega)
    · obtain rfl : j = xs.length := by omega
      go_wp2
      go_ret
      exact ⟨_, rfl, G1.out.size, by have := hc9.out; rwa [List.take_length] at this, Chg.trans G1.out hg.out⟩
theorem sKindCounts_ok (w : World) (S : Nat → Prop) (v : Value) (xs : List OpM) (h : Ops w S v xs) (hok : okOpsB 24 xs = true) :
    Calls Tryz.prog 26 #[v] w fun e w' => ∃ g, e = .returned (.slice (some ⟨g, 0, none⟩) 9 9) ∧ w.heap.size ≤ g ∧ Cnt9 w' g xs ∧ Up w w' := by
  obtain ⟨A, c, rfl, hlc, hcm, -⟩ := h.1.shape
  obtain ⟨hall, -, hlen⟩ := okOpsB_of hok
  obtain ⟨i0, hi, hz0, hz1, hz2⟩ := info_parts info2
  have hmk : ∀ u : World, (Instr.makeSlice 34 (.int .i64 9) (.int .i64 9)).run Tryz.prog u =
      .ok (.slice (some ⟨u.heap.size, 0, none⟩) 9 9) (u.alloc (.cells (madeCells #[.int .i64 0] 9) 2)) := fun u => by
    have h := run_make (P := Tryz.prog) u 34 2 i0 (.int .i64 0) Tryz.underlying34 hi hz0 .i64 .i64 9 9 (by omega) (Int.le_refl _) (by rw [hz2]; omega) (by omega)
    simpa [hz1, Value.cells] using h
  clear hi hz0 hz1 hz2
  have H := Lib.hid h
  have HAL := Lib.hid hall
  have HOK := Lib.hid hok
  clear h hall hok
  go_enter Tryz.func26, Tryz.ntmps26
  go_wp2_with fail
  refine (l07Ops_any _ _ _ xs H.out 24).mono ?_
  rintro e w1 ⟨rfl, g1⟩
  rw [HOK.out]
  have G1 := Lib.hid g1
  clear g1
  go_wp2
  have HM := Lib.hid hmk
  clear hmk
  go_loopw [4] (fun i wr => ∃ j : Nat, j ≤ xs.length ∧ i = .int .i64 j ∧ Hid (Cnt9 wr w1.heap.size (xs.take j)) ∧ Hid (Up w1 wr)) (fun i _ => xs.length - (intOf i).toNat)
  case atStart => exact ⟨0, by omega, rfl, Cnt9.made w1, (Chg.refl _ _).alloc _⟩
  case round =>
    obtain ⟨j, hj, rfl, hc9, hg⟩ := hrel
    by_cases hlt : j < xs.length
    · obtain ⟨b0, o0, c0, he0, hS0, hat0⟩ := (Ops.up H.out G1.out).opAt hlt
      obtain ⟨b, o, c', he, hS, hat⟩ := (Ops.up (Ops.up H.out G1.out) hg.out).opAt hlt
      obtain ⟨rfl, rfl⟩ : b = b0 ∧ o = o0 := by have := he.symm.trans he0; simp at this; exact this.1
      obtain ⟨rfl, rfl⟩ : A = some ⟨b, o, none⟩ ∧ c = c' := by simpa using he
      have hbw : b < w1.heap.size := hat0.1
      clear he he0 hat0
      obtain ⟨hbr, f0, f1, f2, f3, f4, f5, f6, f7⟩ := hat
      obtain ⟨x, hx⟩ : ∃ x, xs[j] = x := ⟨_, rfl⟩
      rw [hx] at f0 f1 f2 f3 f4 f5 f6 f7
      have HX := Lib.hid hx
      have hv : validB x = true := by rw [← hx]; exact (HAL.out _ (List.getElem_mem hlt)).1
      obtain ⟨k, hk⟩ : ∃ k : Nat, x.kind = (k : Int) + 1 := ⟨(x.kind - 1).toNat, by have := validB_kind hv; omega⟩
      have hk9 : k < 9 := by have := validB_kind hv; omega
      have hcb := cntK_bd (xs.take j) ((k : Int) + 1)
      have hjl : (xs.take j).length = j := by rw [List.length_take]; omega
      rw [hjl] at hcb
      have HK := Lib.hid hk
      clear hv hjl hk hx
      rw [HK.out] at f0
      obtain ⟨g1, g2⟩ := hc9.out.2 k hk9
      have hne : b ≠ w1.heap.size := by omega
      clear f1 f2 f3 f4 f5 f6 f7
      go_wp2
      go_roundw
      case rel => exact ⟨j + 1, by omega, by go_num, hc9.out.step hlt (by rw [HX.out]; exact HK.out) hk9, Chg.setCell hg.out (.inr (Nat.le_refl _)) _⟩
      case measure => first | (simp [intOf]; done) | (simp [intOf]; omega)
    · obtain rfl : j = xs.length := by omega
      go_wp2
      go_ret
      exact ⟨_, rfl, G1.out.size, by have := hc9.out; rwa [List.take_length] at this, Chg.trans G1.out hg.out⟩
theorem SavedOpsT (w : World) (n : Int) (S : Nat → Prop) (v : Value) (xs : List OpM) (h : Ops w S v xs) :
    Calls Tryz.prog 15 #[.int .i64 n, v] w fun e w' => ∃ v', e = .returned (.tuple #[v', .int .i64 (optCode n xs)]) ∧ Ints w' (New w.heap.size w'.heap.size) v' (savedOut n xs) ∧ Up w w' := by
  obtain ⟨cd, HCD⟩ : ∃ cd, Hid (optCode n xs = cd) := ⟨_, Lib.hid rfl⟩
  obtain ⟨A, c, rfl, hlc, hcm, -⟩ := h.1.shape
  have H := Lib.hid (h.mono (T := fun b => b < w.heap.size) fun _ h _ => h)
  clear h
  go_enter Tryz.func15, Tryz.ntmps15
  go_wp2_with fail
  refine (runCode_any _ _ _ xs H.out n).mono ?_
  rintro e w1 ⟨rfl, g1⟩
  have G1 := Lib.hid g1
  clear g1
  rw [HCD.out]
  by_cases hcd : cd = 0
  rotate_left
  · have t1 : (cd == 0) = false := by simpa using hcd
    have t2 : (cd != 0) = true := by simpa using hcd
    have HV := Lib.hid (show savedOut n xs = [] by unfold savedOut; rw [HCD.out, if_neg hcd])
    go_wp2
    go_ret2
    rw [HCD.out, HV.out]
    exact ⟨_, rfl, Ints.nil _ _ 0 none (by omega), G1.out⟩
  subst hcd
  obtain ⟨hok, hrun⟩ := opt_ok HCD.out
  have HV := Lib.hid (show savedOut n xs = savedM xs (optA n xs).1 by unfold savedOut; rw [HCD.out, if_pos rfl])
  have HOKL := Lib.hid (okOps_24 (optA_ok hok hrun))
  have HOKX := Lib.hid (okOps_24 hok)
  have HOK := Lib.hid hok
  have HRUN := Lib.hid hrun
  clear hok hrun
  go_wp2_with fail
  refine (optimized_any _ _ _ xs (Ops.up H.out G1.out) n HOK.out HRUN.out).mono ?_
  rintro e w2 ⟨v2, v3, rfl, k2, k3, g2⟩
  obtain ⟨A2, c2, rfl, hl2, hc2, -⟩ := k2.1.shape
  obtain ⟨A3, c3, rfl, hl3, hc3, -⟩ := k3.1.shape
  have K2 := Lib.hid k2
  have G2 := Lib.hid (Chg.trans G1.out g2)
  clear k2 k3 g2
  obtain ⟨ys, HYS⟩ : ∃ ys, Hid ((optA n xs).1 = ys) := ⟨_, Lib.hid rfl⟩
  rw [HYS.out] at K2 HOKL
  rw [HYS.out]
  go_wp2_with fail
  refine (KindCounts_ok _ _ _ xs (Ops.up H.out G2.out) HOKX.out).mono ?_
  rintro e w3 ⟨ga, rfl, hga, ca, g3⟩
  have CA := Lib.hid ca
  have G3 := Lib.hid g3
  have hz3 := G2.out.size
  clear ca g3
  go_wp2_with fail
  refine (KindCounts_ok _ _ _ ys (K2.out.up G3.out) HOKL.out).mono ?_
  rintro e w4 ⟨gb, rfl, hgb, cb, g4⟩
  have CB := Lib.hid cb
  have CA4 := Lib.hid (CA.out.up g4)
  have hal := CA.out.1
  have G4 := Lib.hid (Chg.trans G2.out (Chg.trans G3.out g4))
  clear cb g4 CA G3
  obtain ⟨-, -, hlx⟩ := okOpsB_of HOKX.out
  obtain ⟨-, -, hly⟩ := okOpsB_of HOKL.out
  go_wp2
  go_loopw [29] (fun i wr => ∃ j : Nat, j ≤ 9 ∧ i = .int .i64 j ∧ Hid (Sub9 wr ga xs ys j) ∧ Hid (Cnt9 wr gb ys) ∧ Hid (Up w wr)) (fun i _ => 9 - (intOf i).toNat)
  case atStart => exact ⟨0, by omega, rfl, Sub9.start ys CA4.out, CB.out, G4.out⟩
  case round =>
    obtain ⟨j, hj, rfl, hs, hc, hu⟩ := hrel
    by_cases hlt : j < 9
    · have hne : ga ≠ gb := by omega
      obtain ⟨a1, a2⟩ := hs.out.2 j hlt
      obtain ⟨b1, b2⟩ := hc.out.2 j hlt
      rw [show cntAt xs ys j j = cntK xs ((j : Int) + 1) by unfold cntAt; rw [if_neg (by omega)]] at a1
      have hx1 := cntK_bd xs ((j : Int) + 1)
      have hy1 := cntK_bd ys ((j : Int) + 1)
      have y1 : IntKind.i64.wrap (cntK xs ((j : Int) + 1) - cntK ys ((j : Int) + 1)) = cntK xs ((j : Int) + 1) - cntK ys ((j : Int) + 1) := IntWalk.i64_in _ (by omega)
      have hlt2 : (j : Int) < 9 := by omega
      go_wp2
      go_roundw
      case rel => exact ⟨j + 1, by omega, by go_num, by first | exact hs.out.step hlt | exact (hs.out.step hlt).drew | exact (Sub9.drew hs.out).step hlt, ⟨by first | simpa [World.setCell] using hc.out.1 | (have h := hc.out.1; simp [World.setCell]; omega), fun t ht => ⟨by first | exact keepQ (hc.out.2 t ht).1 hne | skip, by simpa using (hc.out.2 t ht).2⟩⟩, by first | exact Chg.setCell hu.out (.inr (by show w.heap.size ≤ ga; omega)) _ | exact (Chg.setCell hu.out (.inr (by show w.heap.size ≤ ga; omega)) _).drew | exact Chg.setCell hu.out.drew (.inr (by show w.heap.size ≤ ga; omega)) _⟩
      case measure => first | (simp [intOf]; done) | (simp [intOf]; omega)
    · obtain rfl : j = 9 := by omega
      go_wp2
      go_ret2
      rw [HCD.out, HV.out, HYS.out]
      exact ⟨_, rfl, hs.out.ints (by omega) (by omega) (by omega), hu.out⟩
theorem sSavedOpsT (w : World) (n : Int) (S : Nat → Prop) (v : Value) (xs : List OpM) (h : Ops w S v xs) :
    Calls Tryz.prog 14 #[.int .i64 n, v] w fun e w' => ∃ v', e = .returned (.tuple #[v', .int .i64 (optCode n xs)]) ∧ Ints w' (New w.heap.size w'.heap.size) v' (savedOut n xs) ∧ Up w w' := by
  obtain ⟨cd, HCD⟩ : ∃ cd, Hid (optCode n xs = cd) := ⟨_, Lib.hid rfl⟩
  obtain ⟨A, c, rfl, hlc, hcm, -⟩ := h.1.shape
  have H := Lib.hid (h.mono (T := fun b => b < w.heap.size) fun _ h _ => h)
  clear h
  go_enter Tryz.func14, Tryz.ntmps14
  go_wp2_with fail
  refine (l25Rules_any _ _ _ xs H.out n).mono ?_
  rintro e w1 ⟨v1, rfl, k1, g1⟩
  obtain ⟨A1, c1, rfl, hl1, hc1, -⟩ := k1.shape
  clear k1
  have G1 := Lib.hid g1
  clear g1
  rw [HCD.out]
  by_cases hcd : cd = 0
  rotate_left
  · have t1 : (cd == 0) = false := by simpa using hcd
    have t2 : (cd != 0) = true := by simpa using hcd
    have HV := Lib.hid (show savedOut n xs = [] by unfold savedOut; rw [HCD.out, if_neg hcd])
    go_wp2
    go_ret2
    rw [HCD.out, HV.out]
    exact ⟨_, rfl, Ints.nil _ _ 0 none (by omega), G1.out⟩
  subst hcd
  obtain ⟨hok, hrun⟩ := opt_ok HCD.out
  have HV := Lib.hid (show savedOut n xs = savedM xs (optA n xs).1 by unfold savedOut; rw [HCD.out, if_pos rfl])
  have HOKL := Lib.hid (okOps_24 (optA_ok hok hrun))
  have HOKX := Lib.hid (okOps_24 hok)
  have HOK := Lib.hid hok
  have HRUN := Lib.hid hrun
  clear hok hrun
  go_wp2_with fail
  refine (l25All_any _ _ _ xs (Ops.up H.out G1.out) n HOK.out HRUN.out).mono ?_
  rintro e w2 ⟨v2, v3, rfl, k2, k3, g2⟩
  obtain ⟨A2, c2, rfl, hl2, hc2, -⟩ := k2.1.shape
  obtain ⟨A3, c3, rfl, hl3, hc3, -⟩ := k3.1.shape
  have K2 := Lib.hid k2
  have G2 := Lib.hid (Chg.trans G1.out g2)
  clear k2 k3 g2
  obtain ⟨ys, HYS⟩ : ∃ ys, Hid ((optA n xs).1 = ys) := ⟨_, Lib.hid rfl⟩
  rw [HYS.out] at K2 HOKL
  rw [HYS.out]
  go_wp2_with fail
  refine (sKindCounts_ok _ _ _ xs (Ops.up H.out G2.out) HOKX.out).mono ?_
  rintro e w3 ⟨ga, rfl, hga, ca, g3⟩
  have CA := Lib.hid ca
  have G3 := Lib.hid g3
  have hz3 := G2.out.size
  clear ca g3
  go_wp2_with fail
  refine (sKindCounts_ok _ _ _ ys (K2.out.up G3.out) HOKL.out).mono ?_
  rintro e w4 ⟨gb, rfl, hgb, cb, g4⟩
  have CB := Lib.hid cb
  have CA4 := Lib.hid (CA.out.up g4)
  have hal := CA.out.1
  have G4 := Lib.hid (Chg.trans G2.out (Chg.trans G3.out g4))
  clear cb g4 CA G3
  obtain ⟨-, -, hlx⟩ := okOpsB_of HOKX.out
  obtain ⟨-, -, hly⟩ := okOpsB_of HOKL.out
  go_wp2
  go_loopw [12] (fun i wr => ∃ j : Nat, j ≤ 9 ∧ i = .int .i64 j ∧ Hid (Sub9 wr ga xs ys j) ∧ Hid (Cnt9 wr gb ys) ∧ Hid (Up w wr)) (fun i _ => 9 - (intOf i).toNat)
  case atStart => exact ⟨0, by omega, rfl, Sub9.start ys CA4.out, CB.out, G4.out⟩
  case round =>
    obtain ⟨j, hj, rfl, hs, hc, hu⟩ := hrel
    by_cases hlt : j < 9
    · have hne : ga ≠ gb := by omega
      obtain ⟨a1, a2⟩ := hs.out.2 j hlt
      obtain ⟨b1, b2⟩ := hc.out.2 j hlt
      rw [show cntAt xs ys j j = cntK xs ((j : Int) + 1) by unfold cntAt; rw [if_neg (by omega)]] at a1
      have hx1 := cntK_bd xs ((j : Int) + 1)
      have hy1 := cntK_bd ys ((j : Int) + 1)
      have y1 : IntKind.i64.wrap (cntK xs ((j : Int) + 1) - cntK ys ((j : Int) + 1)) = cntK xs ((j : Int) + 1) - cntK ys ((j : Int) + 1) := IntWalk.i64_in _ (by omega)
      have hlt2 : (j : Int) < 9 := by omega
      go_wp2
      go_region
      all_goals go_wp2
      all_goals go_roundw
      case rel => exact ⟨j + 1, by omega, by go_num, by first | exact hs.out.step hlt | exact (hs.out.step hlt).drew | exact (Sub9.drew hs.out).step hlt, ⟨by first | simpa [World.setCell] using hc.out.1 | (have h := hc.out.1; simp [World.setCell]; omega), fun t ht => ⟨by first | exact keepQ (hc.out.2 t ht).1 hne | skip, by simpa using (hc.out.2 t ht).2⟩⟩, by first | exact Chg.setCell hu.out (.inr (by show w.heap.size ≤ ga; omega)) _ | exact (Chg.setCell hu.out (.inr (by show w.heap.size ≤ ga; omega)) _).drew | exact Chg.setCell hu.out.drew (.inr (by show w.heap.size ≤ ga; omega)) _⟩
      case measure => first | (simp [intOf]; done) | (simp [intOf]; omega)
    · obtain rfl : j = 9 := by omega
      go_wp2
      go_ret2
      rw [HCD.out, HV.out, HYS.out]
      exact ⟨_, rfl, hs.out.ints (by omega) (by omega) (by omega), hu.out⟩
end Go.Proofs.YtiiodfcbpmkodaaGreat
