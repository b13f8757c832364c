/- The reference's machine: beds, lists on needles. No condition. -/
import Derived.Test.YtiiodfcbpmkodaaGreatMFn9
set_option linter.unusedSimpArgs false
set_option linter.unusedVariables false
set_option maxRecDepth 100000
set_option maxHeartbeats 8000000
namespace Go.Proofs.YtiiodfcbpmkodaaGreat
open Go.ChangeShapes Go.WideShapes Go.ChangeAt Go.RowKit
attribute [local go_sem ↓] Go.wp_at_zero Go.wp_at_succ
/-- an operation that lies in memory -/
structure OpC (w : World) (b i : Nat) (x : OpM) : Prop where
  c0 : w.cell? ⟨b, i, none⟩ = some (.int .i64 x.kind)
  c1 : w.cell? ⟨b, i + 1, none⟩ = some (.int .i64 x.dir)
  c2 : w.cell? ⟨b, i + 2, none⟩ = some (.int .i64 x.fb)
  c3 : w.cell? ⟨b, i + 3, none⟩ = some (.int .i64 x.fa)
  c4 : w.cell? ⟨b, i + 4, none⟩ = some (.int .i64 x.tb)
  c5 : w.cell? ⟨b, i + 5, none⟩ = some (.int .i64 x.ta)
  c6 : w.cell? ⟨b, i + 6, none⟩ = some (.int .i64 x.car)
  c7 : w.cell? ⟨b, i + 7, none⟩ = some (.int .i64 x.rack)
theorem OpC.keep {w w' : World} {b i : Nat} {x : OpM} {T : Nat → Prop} (h : OpC w b i x) (k : Chg T w w') (hb : ¬ T b) : OpC w' b i x :=
  ⟨k.cell h.c0 hb, k.cell h.c1 hb, k.cell h.c2 hb, k.cell h.c3 hb, k.cell h.c4 hb, k.cell h.c5 hb, k.cell h.c6 hb, k.cell h.c7 hb⟩
theorem OpC.up {w w' : World} {b i : Nat} {x : OpM} (h : OpC w b i x) (k : Up w w') : OpC w' b i x := h.keep k id
theorem l07Place_any (w : World) (b a r : Int) (ha : -1000 ≤ a ∧ a ≤ 1000) (hr : -1000 ≤ r ∧ r ≤ 1000) :
    Calls Tryz.prog 44 #[.agg #[.int .i64 b, .int .i64 a], .int .i64 r] w fun e w' => e = .returned (.int .i64 (placeM b a r)) ∧ Up w w' := by
  by_cases hb : b = 2
  · rw [show placeM b a r = a + r from if_pos hb]
    subst hb
    go_enter Tryz.func44, Tryz.ntmps44
    go_wp2
    go_ret
    exact ⟨rfl, (Chg.refl _ _).alloc _⟩
  · rw [show placeM b a r = a from if_neg hb]
    have h2 : (b == 2) = false := by simpa using hb
    go_enter Tryz.func44, Tryz.ntmps44
    go_wp2
    go_ret
    exact ⟨rfl, (Chg.refl _ _).alloc _⟩
theorem l07Bed_1 (w : World) (p : Nat) (A : Option Addr) (n c : Nat) (h : w.cell? ⟨p, 2, none⟩ = some (.slice A n c)) :
    Calls Tryz.prog 65 #[.pointer (some ⟨p, 0, none⟩), .int .i64 1] w fun e w' => e = .returned (.slice A n c) ∧ w = w' := by
  go_enter Tryz.func65, Tryz.ntmps65
  go_wp2
  go_ret
  exact ⟨rfl, rfl⟩
theorem l07Bed_2 (w : World) (p : Nat) (A : Option Addr) (n c : Nat) (h : w.cell? ⟨p, 3, none⟩ = some (.slice A n c)) :
    Calls Tryz.prog 65 #[.pointer (some ⟨p, 0, none⟩), .int .i64 2] w fun e w' => e = .returned (.slice A n c) ∧ w = w' := by
  go_enter Tryz.func65, Tryz.ntmps65
  go_wp2
  go_ret
  exact ⟨rfl, rfl⟩
theorem l07On_any (w : World) (p : Nat) (b a : Int) (g : Nat) (A : Option Addr) (c : Nat) (l : List Int) (h : Hold w p b a g (.slice A l.length c) l) :
    Calls Tryz.prog 46 #[.pointer (some ⟨p, 0, none⟩), .agg #[.int .i64 b, .int .i64 a]] w fun e w' => e = .returned (.slice A l.length c) ∧ Up w w' := by
  obtain ⟨h0, hdr, ⟨hcell, -⟩, -⟩ := h
  obtain ⟨i, rfl⟩ : ∃ i : Nat, a = i := ⟨a.toNat, by omega⟩
  have hG := Lib.hid ((Chg.refl Nowhere w).alloc (.cells #[.int .i64 b, .int .i64 i] 42))
  have e2 : (w.alloc (.cells #[.int .i64 b, .int .i64 i] 42)).cell? ⟨w.heap.size, 1, none⟩ = some (.int .i64 i) := cell_new _ _ _ _
  have e3 := Chg.cell hG.out hcell id
  rw [show ((i : Int)).toNat = i by omega] at e3
  clear hcell
  rcases hdr with ⟨rfl, n, c2, h1, h2, h3, ⟨h4, -⟩⟩ | ⟨rfl, n, c2, h1, h2, h3, ⟨h4, -⟩⟩
  all_goals
    have hpl := World.block_lt_of_cell? _ _ h4
    have e1 := Chg.cell hG.out h4 id
    have b0 : (0 : Int) ≤ (i : Int) := by omega
    have b1 : i < n := by omega
    have q1 := up_cell e1
    have q2 := up_cell e2
    have q3 := up_cell e3
    clear h4 h0
  · have e0 : (w.alloc (.cells #[.int .i64 2, .int .i64 i] 42)).cell? ⟨w.heap.size, 0, none⟩ = some (.int .i64 2) := cell_new _ _ _ _
    have q0 := up_cell e0
    go_enter Tryz.func46, Tryz.ntmps46
    go_wp2
    clear e0 e1 e2 e3
    refine wp_region_up (by kernel_rfl) (by kernel_rfl) ?_
    repeat (go_big_quiet_step (exact calls_up_same (l07Bed_2 _ _ _ _ _ (q1 _))))
    refine wpQuiet_nil ?_
    rintro _ ⟨u, rfl⟩
    go_wp2
    go_ret
    exact ⟨by simp, Chg.trans hG.out u.up⟩
  · have e0 : (w.alloc (.cells #[.int .i64 1, .int .i64 i] 42)).cell? ⟨w.heap.size, 0, none⟩ = some (.int .i64 1) := cell_new _ _ _ _
    have q0 := up_cell e0
    go_enter Tryz.func46, Tryz.ntmps46
    go_wp2
    clear e0 e1 e2 e3
    refine wp_region_up (by kernel_rfl) (by kernel_rfl) ?_
    repeat (go_big_quiet_step (exact calls_up_same (l07Bed_1 _ _ _ _ _ (q1 _))))
    refine wpQuiet_nil ?_
    rintro _ ⟨u, rfl⟩
    go_wp2
    go_ret
    exact ⟨by simp, Chg.trans hG.out u.up⟩
theorem l07Set_1 (w0 w : World) (k0 : Up w0 w) {S : Nat → Prop} {K p : Nat} {m : MachM} {F B C L D : Value} {fs bs : List Value} (h : MachX w0 S K p m F B C L D fs bs) (hS : NewIn S w0) {a : Int} {g : Nat} {v : Value} {l0 : List Int} (hv : AtN F B fs bs 1 a g v) (hH : Hold w0 p 1 a g v l0) {A' : Option Addr} {c' : Nat} {l' : List Int} (ho : OwnI w 0 (.slice A' l'.length c') l') (hb : ∀ x, (Value.slice A' l'.length c').ownBlock = some x → v.ownBlock = some x ∨ w0.heap.size ≤ x) :
    Calls Tryz.prog 51 #[.pointer (some ⟨p, 0, none⟩), .agg #[.int .i64 1, .int .i64 a], .slice A' l'.length c'] w fun e w' => e = .returned (.tuple #[]) ∧ MachX w' S K p (setM m 1 a l') F B C L D (setF fs 1 a (.slice A' l'.length c')) (setB bs 1 a (.slice A' l'.length c')) ∧ Chg S w0 w' := by
  obtain ⟨i, rfl⟩ : ∃ i : Nat, a = i := ⟨a.toNat, by have := hH.a0; omega⟩
  have hc := (hH.up k0).cell
  have hh := (hH.up k0).hdr
  have hto : ((i : Int)).toNat = i := by omega
  rw [hto] at hc
  have b0 : (0 : Int) ≤ (i : Int) := by omega
  obtain ⟨n, c, h1, h2, h3, h4⟩ : ∃ n c : Nat, (i : Int) < (n : Int) ∧ n ≤ c ∧ c ≤ 9223372036854775807 ∧ CellU w ⟨p, 2, none⟩ (.slice (some ⟨g, 0, none⟩) n c) := by
    rcases hh with ⟨e, n, c, r⟩ | ⟨e, n, c, r⟩
    · cases e
    · exact ⟨n, c, r⟩
  have b1 : i < n := by omega
  have k1 := Lib.hid (Chg.trans k0 ((Chg.refl Nowhere w).alloc (.cells #[.int .i64 1, .int .i64 i] 42)))
  have HX := Lib.hid (h.slotX hS hv (Chg.of_up k1.out) (ho.up ((Chg.refl Nowhere w).alloc (.cells #[.int .i64 1, .int .i64 i] 42))) hb)
  have HG := Lib.hid (h.slotG (v' := .slice A' l'.length c') hv (Chg.of_up k1.out))
  rw [hto] at HX HG
  have e1 := Chg.cell ((Chg.refl Nowhere w).alloc (.cells #[.int .i64 1, .int .i64 i] 42)) h4.1 id
  have e2 := Chg.cell ((Chg.refl Nowhere w).alloc (.cells #[.int .i64 1, .int .i64 i] 42)) hc.1 id
  have f2 := (hc.up ((Chg.refl Nowhere w).alloc (.cells #[.int .i64 1, .int .i64 i] 42))).2
  clear h hS hv hH k0 hb hh hc h4 ho
  go_enter Tryz.func51, Tryz.ntmps51
  go_wp2_with fail
  refine (l07Bed_1 _ _ _ _ _ e1).mono ?_
  rintro e w' ⟨rfl, rfl⟩
  go_wp2
  go_end0
  exact ⟨rfl, by simpa using HX.out, by simpa using HG.out⟩
theorem l07Set_2 (w0 w : World) (k0 : Up w0 w) {S : Nat → Prop} {K p : Nat} {m : MachM} {F B C L D : Value} {fs bs : List Value} (h : MachX w0 S K p m F B C L D fs bs) (hS : NewIn S w0) {a : Int} {g : Nat} {v : Value} {l0 : List Int} (hv : AtN F B fs bs 2 a g v) (hH : Hold w0 p 2 a g v l0) {A' : Option Addr} {c' : Nat} {l' : List Int} (ho : OwnI w 0 (.slice A' l'.length c') l') (hb : ∀ x, (Value.slice A' l'.length c').ownBlock = some x → v.ownBlock = some x ∨ w0.heap.size ≤ x) :
    Calls Tryz.prog 51 #[.pointer (some ⟨p, 0, none⟩), .agg #[.int .i64 2, .int .i64 a], .slice A' l'.length c'] w fun e w' => e = .returned (.tuple #[]) ∧ MachX w' S K p (setM m 2 a l') F B C L D (setF fs 2 a (.slice A' l'.length c')) (setB bs 2 a (.slice A' l'.length c')) ∧ Chg S w0 w' := by
  obtain ⟨i, rfl⟩ : ∃ i : Nat, a = i := ⟨a.toNat, by have := hH.a0; omega⟩
  have hc := (hH.up k0).cell
  have hh := (hH.up k0).hdr
  have hto : ((i : Int)).toNat = i := by omega
  rw [hto] at hc
  have b0 : (0 : Int) ≤ (i : Int) := by omega
  obtain ⟨n, c, h1, h2, h3, h4⟩ : ∃ n c : Nat, (i : Int) < (n : Int) ∧ n ≤ c ∧ c ≤ 9223372036854775807 ∧ CellU w ⟨p, 3, none⟩ (.slice (some ⟨g, 0, none⟩) n c) := by
    rcases hh with ⟨e, n, c, r⟩ | ⟨e, n, c, r⟩
    · exact ⟨n, c, r⟩
    · cases e
  have b1 : i < n := by omega
  have k1 := Lib.hid (Chg.trans k0 ((Chg.refl Nowhere w).alloc (.cells #[.int .i64 2, .int .i64 i] 42)))
  have HX := Lib.hid (h.slotX hS hv (Chg.of_up k1.out) (ho.up ((Chg.refl Nowhere w).alloc (.cells #[.int .i64 2, .int .i64 i] 42))) hb)
  have HG := Lib.hid (h.slotG (v' := .slice A' l'.length c') hv (Chg.of_up k1.out))
  rw [hto] at HX HG
  have e1 := Chg.cell ((Chg.refl Nowhere w).alloc (.cells #[.int .i64 2, .int .i64 i] 42)) h4.1 id
  have e2 := Chg.cell ((Chg.refl Nowhere w).alloc (.cells #[.int .i64 2, .int .i64 i] 42)) hc.1 id
  have f2 := (hc.up ((Chg.refl Nowhere w).alloc (.cells #[.int .i64 2, .int .i64 i] 42))).2
  clear h hS hv hH k0 hb hh hc h4 ho
  go_enter Tryz.func51, Tryz.ntmps51
  go_wp2_with fail
  refine (l07Bed_2 _ _ _ _ _ e1).mono ?_
  rintro e w' ⟨rfl, rfl⟩
  go_wp2
  go_end0
  exact ⟨rfl, by simpa using HX.out, by simpa using HG.out⟩
end Go.Proofs.YtiiodfcbpmkodaaGreat
