/- The program's small functions on machines. No condition. -/
import Derived.Test.YtiiodfcbpmkodaaGreatMach2
import Derived.StillTailTactics
import Derived.Deep.RegionHeld3
set_option linter.unusedSimpArgs false
set_option linter.unusedVariables false
set_option maxRecDepth 100000
set_option maxHeartbeats 8000000
namespace Go.Proofs.YtiiodfcbpmkodaaGreat
open Go.ChangeShapes Go.WideShapes Go.ChangeAt Go.RowKit
theorem place_any (w : World) (b a r : Int) (ha : -1000 ≤ a ∧ a ≤ 1000) (hr : -1000 ≤ r ∧ r ≤ 1000) :
    Calls Tryz.prog 85 #[.agg #[.int .i64 b, .int .i64 a], .int .i64 r] w fun e w' => e = .returned (.int .i64 (placeM b a r)) ∧ Up w w' := by
  by_cases hb : b = 2
  · rw [show placeM b a r = a + r from if_pos hb]
    subst hb
    go_enter Tryz.func85, Tryz.ntmps85
    go_wp2
    go_ret
    exact ⟨rfl, (by repeat (first | exact Chg.refl _ _ | apply Chg.drew | apply Chg.drewN | refine Chg.alloc ?_ _))⟩
  · rw [show placeM b a r = a from if_neg hb]
    have e1 : (b == 2) = false := by simpa using hb
    clear hb
    go_enter Tryz.func85, Tryz.ntmps85
    go_wp2
    go_ret
    exact ⟨rfl, (by repeat (first | exact Chg.refl _ _ | apply Chg.drew | apply Chg.drewN | refine Chg.alloc ?_ _))⟩
theorem OtherBed_any (w : World) (b : Int) (hb : b = 1 ∨ b = 2) : Calls Tryz.prog 94 #[.int .i64 b] w fun e w' => e = .returned (.int .i64 (3 - b)) ∧ w = w' := by
  rcases hb with rfl | rfl
  · go_enter Tryz.func94, Tryz.ntmps94
    go_wp2
    go_ret
    exact ⟨rfl, rfl⟩
  · go_enter Tryz.func94, Tryz.ntmps94
    go_wp2
    go_ret
    exact ⟨rfl, rfl⟩
theorem makesLoop_any (w : World) (k : Int) : Calls Tryz.prog 84 #[.int .i64 k] w fun e w' => e = .returned (.bool (makesB k)) ∧ w = w' := by
  by_cases h1 : k = 1
  · subst h1
    go_enter Tryz.func84, Tryz.ntmps84
    go_wp2
    go_ret
    exact ⟨rfl, rfl⟩
  have e1 : (k == 1) = false := by simpa using h1
  by_cases h2 : k = 2
  · subst h2
    clear e1 h1
    go_enter Tryz.func84, Tryz.ntmps84
    go_wp2
    go_ret
    exact ⟨rfl, rfl⟩
  have e2 : (k == 2) = false := by simpa using h2
  by_cases h3 : k = 5
  · subst h3
    clear e1 h1 e2 h2
    go_enter Tryz.func84, Tryz.ntmps84
    go_wp2
    go_ret
    exact ⟨rfl, rfl⟩
  have e3 : (k == 5) = false := by simpa using h3
  have HM := Lib.hid (show makesB k = false from decide_eq_false (by omega))
  clear h1 h2 h3
  go_enter Tryz.func84, Tryz.ntmps84
  go_wp2
  go_ret
  exact ⟨ret_bool HM.out.symm, rfl⟩
/-- what lies on a needle, and where it is kept -/
structure Hold (w : World) (p : Nat) (b a : Int) (g : Nat) (v : Value) (l : List Int) : Prop where
  a0 : 0 ≤ a
  hdr : (b = 2 ∧ ∃ n c : Nat, a < (n : Int) ∧ n ≤ c ∧ c ≤ 9223372036854775807 ∧ CellU w ⟨p, 3, none⟩ (.slice (some ⟨g, 0, none⟩) n c)) ∨ (b = 1 ∧ ∃ n c : Nat, a < (n : Int) ∧ n ≤ c ∧ c ≤ 9223372036854775807 ∧ CellU w ⟨p, 2, none⟩ (.slice (some ⟨g, 0, none⟩) n c))
  cell : CellU w ⟨g, a.toNat, none⟩ v
  own : OwnI w 0 v l
theorem Hold.up {w w' : World} {p : Nat} {b a : Int} {g : Nat} {v : Value} {l : List Int} (h : Hold w p b a g v l) (k : Up w w') : Hold w' p b a g v l :=
  ⟨h.a0, h.hdr.imp (fun ⟨e, n, c, h1, h2, h3, h4⟩ => ⟨e, n, c, h1, h2, h3, h4.up k⟩) (fun ⟨e, n, c, h1, h2, h3, h4⟩ => ⟨e, n, c, h1, h2, h3, h4.up k⟩), h.cell.up k, h.own.up k⟩
theorem MachX.hold {w : World} {S : Nat → Prop} {K p : Nat} {m : MachM} {F B C L D : Value} {fs bs : List Value} (h : MachX w S K p m F B C L D fs bs) (hi : MInv m) {b a : Int} (hn : okN m b a) :
    ∃ g v, Hold w p b a g v (onM m b a) ∧ ((b = 2 ∧ ∃ c, B = .slice (some ⟨g, 0, none⟩) bs.length c ∧ bs.getD a.toNat (.slice none 0 0) = v ∧ a.toNat < bs.length) ∨ (b = 1 ∧ ∃ c, F = .slice (some ⟨g, 0, none⟩) fs.length c ∧ fs.getD a.toNat (.slice none 0 0) = v ∧ a.toNat < fs.length)) := by
  obtain ⟨hb, h0, h1⟩ := hn
  have hbl := hi.bl
  have hfl := hi.fl
  rcases hb with rfl | rfl
  · have hlt : a.toNat < fs.length := by rw [h.fl]; omega
    obtain ⟨g, c, hF, hc1, hc2, hg, hcs⟩ := ownsRow_some h.f (by omega)
    have hfi := h.fi a.toNat hlt
    have hon : onM m 1 a = m.fr.getD a.toNat [] := rfl
    have hcc := hcs a.toNat hlt
    refine ⟨g, fs[a.toNat], ⟨h0, .inr ⟨rfl, fs.length, c, by omega, hc1, by unfold Go.maxLen at hc2; omega, hF ▸ h.c2⟩, hcc, by rw [hon]; exact hfi⟩, .inr ⟨rfl, c, hF, ?_, hlt⟩⟩
    rw [List.getD_eq_getElem?_getD, List.getElem?_eq_getElem hlt, Option.getD_some]
  · have hlt : a.toNat < bs.length := by rw [h.bl]; omega
    obtain ⟨g, c, hB, hc1, hc2, hg, hcs⟩ := ownsRow_some h.b (by omega)
    have hbi := h.bi a.toNat hlt
    have hon : onM m 2 a = m.bk.getD a.toNat [] := rfl
    have hcc := hcs a.toNat hlt
    refine ⟨g, bs[a.toNat], ⟨h0, .inl ⟨rfl, bs.length, c, by omega, hc1, by unfold Go.maxLen at hc2; omega, hB ▸ h.c3⟩, hcc, by rw [hon]; exact hbi⟩, .inl ⟨rfl, c, hB, ?_, hlt⟩⟩
    rw [List.getD_eq_getElem?_getD, List.getElem?_eq_getElem hlt, Option.getD_some]
theorem on_any (w : World) (p : Nat) (b a : Int) (g : Nat) (v : Value) (l : List Int) (h : Hold w p b a g v l) :
    Calls Tryz.prog 80 #[.pointer (some ⟨p, 0, none⟩), .agg #[.int .i64 b, .int .i64 a]] w fun e w' => e = .returned (.pointer (some ⟨g, a.toNat, none⟩)) ∧ Up w w' := by
  obtain ⟨h0, hdr, -, -⟩ := h
  obtain ⟨i, rfl⟩ : ∃ i : Nat, a = i := ⟨a.toNat, by omega⟩
  have hG := Lib.hid ((Chg.refl Nowhere w).alloc (.cells #[.int .i64 b, .int .i64 i] 42))
  have e2 : (w.alloc (.cells #[.int .i64 b, .int .i64 i] 42)).cell? ⟨w.heap.size, 1, none⟩ = some (.int .i64 i) := cell_new _ _ _ _
  rcases hdr with ⟨rfl, n, c, h1, h2, h3, ⟨h4, -⟩⟩ | ⟨rfl, n, c, h1, h2, h3, ⟨h4, -⟩⟩
  all_goals
    have hpl := World.block_lt_of_cell? _ _ h4
    have e1 := Chg.cell hG.out h4 id
    have b0 : (0 : Int) ≤ (i : Int) := by omega
    have b1 : i < n := by omega
    clear h4 h0
    go_enter Tryz.func80, Tryz.ntmps80
    go_wp2
    have q1 := up_cell e1
    have q2 := up_cell e2
    clear e1 e2
    refine wp_region_up (by kernel_rfl) (by kernel_rfl) ?_
    repeat (go_big_quiet_step (fail))
    refine wpQuiet_nil ?_
    rintro _ ⟨u, rfl⟩
    go_wp2
    go_ret
    exact ⟨by simp, Chg.trans hG.out u.up⟩
end Go.Proofs.YtiiodfcbpmkodaaGreat
