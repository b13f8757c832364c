/- The program's tests on machines: facing needles, carriers, codes. No condition. -/
import Derived.Test.YtiiodfcbpmkodaaGreatMFn1
import Derived.Deep.DrawnRows
import Derived.Laws.ResultCell
set_option linter.unusedSimpArgs false
set_option linter.unusedVariables false
set_option maxRecDepth 100000
set_option maxHeartbeats 8000000
namespace Go.Proofs.YtiiodfcbpmkodaaGreat
open Go.ChangeShapes Go.WideShapes Go.ChangeAt Go.RowKit
attribute [local go_sem ↓] Go.wp_at_zero Go.wp_at_succ
def faceM (b a r : Int) : Int := if b = 2 then a + r else a - r
theorem low3 {w : World} {q : Addr} {u : Value} (h : w.cell? q = some u) (o1 o2 o3 : Obj) : (((w.alloc o1).alloc o2).alloc o3).cell? q = some u := Chg.cell ((((Chg.refl Nowhere w).alloc _).alloc _).alloc _) h id
theorem top3 (w : World) (o1 o2 : Obj) (cs : Array Value) (e : TypeId) (t : Nat) (u : Value) (hu : cs[t]? = some u) : (((w.alloc o1).alloc o2).alloc (.cells cs e)).cell? ⟨w.heap.size + 1 + 1, t, none⟩ = some u := by
  rw [show w.heap.size + 1 + 1 = ((w.alloc o1).alloc o2).heap.size by simp, cell_new]; exact hu
theorem mid3 (w : World) (o2 o3 : Obj) (cs : Array Value) (e : TypeId) (t : Nat) (u : Value) (hu : cs[t]? = some u) : (((w.alloc (.cells cs e)).alloc o2).alloc o3).cell? ⟨w.heap.size, t, none⟩ = some u :=
  Chg.cell (((Chg.refl Nowhere _).alloc _).alloc _) ((cell_new w cs e t).trans hu) id
theorem facing_any (w : World) (p : Nat) (wd r b a : Int) (h0 : CellU w ⟨p, 0, none⟩ (.int .i64 wd)) (h1 : CellU w ⟨p, 1, none⟩ (.int .i64 r)) (hb : b = 1 ∨ b = 2) (ha : 0 ≤ a ∧ a ≤ 100) (hr : -3 ≤ r ∧ r ≤ 3) (hw : 1 ≤ wd ∧ wd ≤ 24) :
    Calls Tryz.prog 89 #[.pointer (some ⟨p, 0, none⟩), .agg #[.int .i64 b, .int .i64 a]] w fun e w' => e = .returned (.tuple #[.agg #[.int .i64 (3 - b), .int .i64 (faceM b a r)], .bool (inB (faceM b a r) 0 (wd - 1))]) ∧ Up w w' := by
  obtain ⟨c0, -⟩ := h0
  obtain ⟨c1, -⟩ := h1
  have hpl := World.block_lt_of_cell? _ _ c0
  have hpl : p < w.heap.size := hpl
  rcases hb with rfl | rfl
  · skip
    have G := Lib.hid (show Up w ((w.alloc (.cells #[.int .i64 1, .int .i64 a] 42)).alloc (.cells #[.int .i64 0, .int .i64 0] 42)) from ((Chg.refl Nowhere w).alloc _).alloc _)
    have k0 := Chg.cell G.out c0 id
    have k1 := Chg.cell G.out c1 id
    have z0 : ((w.alloc (.cells #[.int .i64 1, .int .i64 a] 42)).alloc (.cells #[.int .i64 0, .int .i64 0] 42)).cell? ⟨w.heap.size, 0, none⟩ = some (.int .i64 1) := Chg.cell ((Chg.refl Nowhere _).alloc _) (cell_new w _ _ 0) id
    have z1 : ((w.alloc (.cells #[.int .i64 1, .int .i64 a] 42)).alloc (.cells #[.int .i64 0, .int .i64 0] 42)).cell? ⟨w.heap.size, 1, none⟩ = some (.int .i64 a) := Chg.cell ((Chg.refl Nowhere _).alloc _) (cell_new w _ _ 1) id
    have y1 : IntKind.i64.wrap (a - r) = a - r := IntWalk.i64_in _ (by omega)
    have y2 : IntKind.i64.wrap (a + r) = a + r := IntWalk.i64_in _ (by omega)
    have y4 : IntKind.i64.wrap (wd - 1) = wd - 1 := IntWalk.i64_in _ (by omega)
    have x1 := fun o2 => mid3 w o2 (.cells #[.int .i64 2, .int .i64 (a - r)] 42) #[.int .i64 1, .int .i64 a] 42 1 (.int .i64 a) rfl
    have x2 := fun o2 => low3 c1 (.cells #[.int .i64 1, .int .i64 a] 42) o2 (.cells #[.int .i64 2, .int .i64 (a - r)] 42)
    have x3 := fun o2 => low3 c0 (.cells #[.int .i64 1, .int .i64 a] 42) o2 (.cells #[.int .i64 2, .int .i64 (a - r)] 42)
    have n0 := fun o2 => top3 w (.cells #[.int .i64 1, .int .i64 a] 42) o2 #[.int .i64 2, .int .i64 (a - r)] 42 0 (.int .i64 2) rfl
    have n1 := fun o2 => top3 w (.cells #[.int .i64 1, .int .i64 a] 42) o2 #[.int .i64 2, .int .i64 (a - r)] 42 1 (.int .i64 (a - r)) rfl
    have m0 := fun o2 => top3 w (.cells #[.int .i64 1, .int .i64 a] 42) o2 #[.int .i64 2, .int .i64 (a + r)] 42 0 (.int .i64 2) rfl
    have m1 := fun o2 => top3 w (.cells #[.int .i64 1, .int .i64 a] 42) o2 #[.int .i64 2, .int .i64 (a + r)] 42 1 (.int .i64 (a + r)) rfl
    have m3 := fun o2 => low3 c0 (.cells #[.int .i64 1, .int .i64 a] 42) o2 (.cells #[.int .i64 2, .int .i64 (a + r)] 42)
    have m2 := fun o2 => low3 c1 (.cells #[.int .i64 1, .int .i64 a] 42) o2 (.cells #[.int .i64 2, .int .i64 (a + r)] 42)
    have m9 := fun o2 => mid3 w o2 (.cells #[.int .i64 2, .int .i64 (a + r)] 42) #[.int .i64 1, .int .i64 a] 42 1 (.int .i64 a) rfl
    go_enter Tryz.func89, Tryz.ntmps89
    go_wp2
    go_region_held3 (fun w' => w'.cell? ⟨w.heap.size, 0, none⟩ = some (.int .i64 1) ∧ w'.cell? ⟨w.heap.size, 1, none⟩ = some (.int .i64 a) ∧ w'.cell? ⟨p, 1, none⟩ = some (.int .i64 r) ∧ w'.cell? ⟨p, 0, none⟩ = some (.int .i64 wd)) (go_keep) (first | (go_at_call 94; refine (OtherBed_any _ 1 (by omega)).mono ?_; rintro e w' ⟨rfl, rfl⟩))
    all_goals go_wp2
    all_goals go_region_held3 (fun w' => w'.cell? ⟨w.heap.size + 1 + 1, 0, none⟩ = some (.int .i64 2) ∧ w'.cell? ⟨w.heap.size + 1 + 1, 1, none⟩ = some (.int .i64 (a - r)) ∧ w'.cell? ⟨p, 0, none⟩ = some (.int .i64 wd)) (first | exact ⟨n0 _, n1 _, x3 _⟩ | go_keep) (first | (go_at_call 57; refine (within_any _ _ _ _).mono ?_; rintro e w' ⟨rfl, rfl⟩))
    all_goals go_wp2
    all_goals (try simp only [Exit.inBlock, Exit.then])
    all_goals refine bodyPost_ret (v := .tuple #[.agg #[.int .i64 (3 - 1), .int .i64 (faceM 1 a r)], .bool (inB (faceM 1 a r) 0 (wd - 1))]) (by rw [results_cell_tmp rfl]; go_simp; simp [faceM]) rfl ?_
    all_goals exact ⟨rfl, by repeat (first | exact Chg.refl _ _ | apply Chg.drew | apply Chg.drewN | refine Chg.alloc ?_ _)⟩
  · skip
    have G := Lib.hid (show Up w ((w.alloc (.cells #[.int .i64 2, .int .i64 a] 42)).alloc (.cells #[.int .i64 0, .int .i64 0] 42)) from ((Chg.refl Nowhere w).alloc _).alloc _)
    have k0 := Chg.cell G.out c0 id
    have k1 := Chg.cell G.out c1 id
    have z0 : ((w.alloc (.cells #[.int .i64 2, .int .i64 a] 42)).alloc (.cells #[.int .i64 0, .int .i64 0] 42)).cell? ⟨w.heap.size, 0, none⟩ = some (.int .i64 2) := Chg.cell ((Chg.refl Nowhere _).alloc _) (cell_new w _ _ 0) id
    have z1 : ((w.alloc (.cells #[.int .i64 2, .int .i64 a] 42)).alloc (.cells #[.int .i64 0, .int .i64 0] 42)).cell? ⟨w.heap.size, 1, none⟩ = some (.int .i64 a) := Chg.cell ((Chg.refl Nowhere _).alloc _) (cell_new w _ _ 1) id
    have y1 : IntKind.i64.wrap (a - r) = a - r := IntWalk.i64_in _ (by omega)
    have y2 : IntKind.i64.wrap (a + r) = a + r := IntWalk.i64_in _ (by omega)
    have y4 : IntKind.i64.wrap (wd - 1) = wd - 1 := IntWalk.i64_in _ (by omega)
    have x1 := fun o2 => mid3 w o2 (.cells #[.int .i64 1, .int .i64 (a - r)] 42) #[.int .i64 2, .int .i64 a] 42 1 (.int .i64 a) rfl
    have x2 := fun o2 => low3 c1 (.cells #[.int .i64 2, .int .i64 a] 42) o2 (.cells #[.int .i64 1, .int .i64 (a - r)] 42)
    have x3 := fun o2 => low3 c0 (.cells #[.int .i64 2, .int .i64 a] 42) o2 (.cells #[.int .i64 1, .int .i64 (a - r)] 42)
    have n0 := fun o2 => top3 w (.cells #[.int .i64 2, .int .i64 a] 42) o2 #[.int .i64 1, .int .i64 (a - r)] 42 0 (.int .i64 1) rfl
    have n1 := fun o2 => top3 w (.cells #[.int .i64 2, .int .i64 a] 42) o2 #[.int .i64 1, .int .i64 (a - r)] 42 1 (.int .i64 (a - r)) rfl
    have m0 := fun o2 => top3 w (.cells #[.int .i64 2, .int .i64 a] 42) o2 #[.int .i64 1, .int .i64 (a + r)] 42 0 (.int .i64 1) rfl
    have m1 := fun o2 => top3 w (.cells #[.int .i64 2, .int .i64 a] 42) o2 #[.int .i64 1, .int .i64 (a + r)] 42 1 (.int .i64 (a + r)) rfl
    have m3 := fun o2 => low3 c0 (.cells #[.int .i64 2, .int .i64 a] 42) o2 (.cells #[.int .i64 1, .int .i64 (a + r)] 42)
    have m2 := fun o2 => low3 c1 (.cells #[.int .i64 2, .int .i64 a] 42) o2 (.cells #[.int .i64 1, .int .i64 (a + r)] 42)
    have m9 := fun o2 => mid3 w o2 (.cells #[.int .i64 1, .int .i64 (a + r)] 42) #[.int .i64 2, .int .i64 a] 42 1 (.int .i64 a) rfl
    go_enter Tryz.func89, Tryz.ntmps89
    go_wp2
    go_region_held3 (fun w' => w'.cell? ⟨w.heap.size, 0, none⟩ = some (.int .i64 2) ∧ w'.cell? ⟨w.heap.size, 1, none⟩ = some (.int .i64 a) ∧ w'.cell? ⟨p, 1, none⟩ = some (.int .i64 r) ∧ w'.cell? ⟨p, 0, none⟩ = some (.int .i64 wd)) (go_keep) (first | (go_at_call 94; refine (OtherBed_any _ 2 (by omega)).mono ?_; rintro e w' ⟨rfl, rfl⟩))
    all_goals go_wp2
    have s1 := x1 (.cells #[.int .i64 0, .int .i64 0] 42)
    have s2 := x2 (.cells #[.int .i64 0, .int .i64 0] 42)
    have s3 := x3 (.cells #[.int .i64 0, .int .i64 0] 42)
    all_goals go_region
    all_goals go_wp2
    all_goals go_region_held3 (fun w' => w'.cell? ⟨w.heap.size + 1 + 1, 0, none⟩ = some (.int .i64 1) ∧ w'.cell? ⟨w.heap.size + 1 + 1, 1, none⟩ = some (.int .i64 (a + r)) ∧ w'.cell? ⟨p, 0, none⟩ = some (.int .i64 wd)) (first | exact ⟨m0 _, m1 _, m3 _⟩ | go_keep) (first | (go_at_call 57; refine (within_any _ _ _ _).mono ?_; rintro e w' ⟨rfl, rfl⟩))
    all_goals go_wp2
    all_goals (try simp only [Exit.inBlock, Exit.then])
    all_goals refine bodyPost_ret (v := .tuple #[.agg #[.int .i64 (3 - 2), .int .i64 (faceM 2 a r)], .bool (inB (faceM 2 a r) 0 (wd - 1))]) (by rw [results_cell_tmp rfl]; go_simp; simp [faceM]) rfl ?_
    all_goals exact ⟨rfl, by repeat (first | exact Chg.refl _ _ | apply Chg.drew | apply Chg.drewN | refine Chg.alloc ?_ _)⟩
end Go.Proofs.YtiiodfcbpmkodaaGreat
