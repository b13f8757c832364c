/- The operations of a stitch. Conditions: a kind, a needle, a direction, a carrier. -/
import Derived.Test.YtmimbnpcokfnlaaNeedle
import Derived.Deep.RegionHeld3
namespace Go.Proofs.Ytmimbnpcokfnlaa
open Go.ChangeShapes Go.WideShapes Go.ChangeAt Go.RowKit
def stitchM (kind n dir car : Int) : List OpM :=
  if kind = 7 then [] else if kind = 3 ∨ kind = 6 then [⟨2, dir, 1, n, 0, 0, car, 0⟩]
  else if kind = 2 then [⟨4, 0, 1, n, 2, n, 0, 0⟩, ⟨1, dir, 2, n, 0, 0, car, 0⟩, ⟨4, 0, 2, n, 1, n, 0, 0⟩] else [⟨1, dir, 1, n, 0, 0, car, 0⟩]
theorem stitchM_ok {kind n dir car : Int} (hp : 0 ≤ n ∧ n ≤ 100) (hd : dir = 1 ∨ dir = -1) (hc : 1 ≤ car ∧ car ≤ 4) : ∀ x ∈ stitchM kind n dir car, x.ok := by
  intro x hx
  unfold stitchM at hx
  split at hx
  · simp at hx
  · split at hx
    · simp only [List.mem_singleton] at hx
      subst hx
      unfold OpM.ok I64
      simp only []
      omega
    · split at hx
      · simp only [List.mem_cons, List.not_mem_nil, or_false] at hx
        rcases hx with rfl | rfl | rfl <;> (unfold OpM.ok I64; simp only []; omega)
      · simp only [List.mem_singleton] at hx
        subst hx
        unfold OpM.ok I64
        simp only []
        omega
set_option maxHeartbeats 8000000 in
theorem stitchOps_any (w : World) (kind n dir car : Int) (hk : 1 ≤ kind ∧ kind ≤ 11) (hp : 0 ≤ n ∧ n ≤ 100) (hd : dir = 1 ∨ dir = -1) (hc : 1 ≤ car ∧ car ≤ 4) :
    Calls Try.prog 193 #[.int .i64 kind, .int .i64 n, .int .i64 dir, .int .i64 car] w fun e w' => ∃ v, e = .returned v ∧ Ops w' (New w.heap.size w'.heap.size) v (stitchM kind n dir car) ∧ Up w w' := by
  have hok := Lib.hid (stitchM_ok (kind := kind) hp hd hc)
  clear hp hd hc
  have hs : kind = 1 ∨ kind = 2 ∨ kind = 3 ∨ kind = 4 ∨ kind = 5 ∨ kind = 6 ∨ kind = 7 ∨ kind = 8 ∨ kind = 9 ∨ kind = 10 ∨ kind = 11 := by omega
  clear hk
  rcases hs with rfl | rfl | rfl | rfl | rfl | rfl | rfl | rfl | rfl | rfl | rfl
  · go_enter Try.func193, Try.ntmps193
    go_wp2_with fail
    refine (frontNeedle_any _ _).mono ?_
    rintro e w1 ⟨rfl, g1⟩
    have hsz := g1.size
    have G1 := Lib.hid g1
    clear g1
    go_wp2
    go_ret
    exact ⟨_, rfl, ⟨Raw.of_block (heap_new_at (by simp)) rfl ⟨by first | omega | (simp; done) | (simp; omega), by first | omega | (simp; done) | (simp; omega)⟩ rfl (by simp) (by omega), hok.out⟩, by repeat (first | exact G1.out | refine Chg.alloc ?_ _)⟩
  · go_enter Try.func193, Try.ntmps193
    go_wp2_with fail
    refine (frontNeedle_any _ _).mono ?_
    rintro e w1 ⟨rfl, g1⟩
    have hsz := g1.size
    have G1 := Lib.hid g1
    clear g1
    go_wp2
    go_ret
    exact ⟨_, rfl, ⟨Raw.of_block (heap_new_at (by simp)) rfl ⟨by first | omega | (simp; done) | (simp; omega), by first | omega | (simp; done) | (simp; omega)⟩ rfl (by simp) (by omega), hok.out⟩, by repeat (first | exact G1.out | refine Chg.alloc ?_ _)⟩
  · go_enter Try.func193, Try.ntmps193
    go_wp2_with fail
    refine (frontNeedle_any _ _).mono ?_
    rintro e w1 ⟨rfl, g1⟩
    have hsz := g1.size
    have G1 := Lib.hid g1
    clear g1
    go_wp2
    go_ret
    exact ⟨_, rfl, ⟨Raw.of_block (heap_new_at (by simp)) rfl ⟨by first | omega | (simp; done) | (simp; omega), by first | omega | (simp; done) | (simp; omega)⟩ rfl (by simp) (by omega), hok.out⟩, by repeat (first | exact G1.out | refine Chg.alloc ?_ _)⟩
  · go_enter Try.func193, Try.ntmps193
    go_wp2_with fail
    refine (frontNeedle_any _ _).mono ?_
    rintro e w1 ⟨rfl, g1⟩
    have hsz := g1.size
    have G1 := Lib.hid g1
    clear g1
    go_wp2
    go_ret
    exact ⟨_, rfl, ⟨Raw.of_block (heap_new_at (by simp)) rfl ⟨by first | omega | (simp; done) | (simp; omega), by first | omega | (simp; done) | (simp; omega)⟩ rfl (by simp) (by omega), hok.out⟩, by repeat (first | exact G1.out | refine Chg.alloc ?_ _)⟩
  · go_enter Try.func193, Try.ntmps193
    go_wp2_with fail
    refine (frontNeedle_any _ _).mono ?_
    rintro e w1 ⟨rfl, g1⟩
    have hsz := g1.size
    have G1 := Lib.hid g1
    clear g1
    go_wp2
    go_ret
    exact ⟨_, rfl, ⟨Raw.of_block (heap_new_at (by simp)) rfl ⟨by first | omega | (simp; done) | (simp; omega), by first | omega | (simp; done) | (simp; omega)⟩ rfl (by simp) (by omega), hok.out⟩, by repeat (first | exact G1.out | refine Chg.alloc ?_ _)⟩
  · go_enter Try.func193, Try.ntmps193
    go_wp2_with fail
    refine (frontNeedle_any _ _).mono ?_
    rintro e w1 ⟨rfl, g1⟩
    have hsz := g1.size
    have G1 := Lib.hid g1
    clear g1
    go_wp2
    go_ret
    exact ⟨_, rfl, ⟨Raw.of_block (heap_new_at (by simp)) rfl ⟨by first | omega | (simp; done) | (simp; omega), by first | omega | (simp; done) | (simp; omega)⟩ rfl (by simp) (by omega), hok.out⟩, by repeat (first | exact G1.out | refine Chg.alloc ?_ _)⟩
  · go_enter Try.func193, Try.ntmps193
    go_wp2_with fail
    refine (frontNeedle_any _ _).mono ?_
    rintro e w1 ⟨rfl, g1⟩
    have hsz := g1.size
    have G1 := Lib.hid g1
    clear g1
    go_wp2
    go_ret
    exact ⟨_, rfl, Ops.nil _ _ _ _ (by omega), by repeat (first | exact G1.out | refine Chg.alloc ?_ _)⟩
  · go_enter Try.func193, Try.ntmps193
    go_wp2_with fail
    refine (frontNeedle_any _ _).mono ?_
    rintro e w1 ⟨rfl, g1⟩
    have hsz := g1.size
    have G1 := Lib.hid g1
    clear g1
    go_wp2
    go_ret
    exact ⟨_, rfl, ⟨Raw.of_block (heap_new_at (by simp)) rfl ⟨by first | omega | (simp; done) | (simp; omega), by first | omega | (simp; done) | (simp; omega)⟩ rfl (by simp) (by omega), hok.out⟩, by repeat (first | exact G1.out | refine Chg.alloc ?_ _)⟩
  · go_enter Try.func193, Try.ntmps193
    go_wp2_with fail
    refine (frontNeedle_any _ _).mono ?_
    rintro e w1 ⟨rfl, g1⟩
    have hsz := g1.size
    have G1 := Lib.hid g1
    clear g1
    go_wp2
    go_ret
    exact ⟨_, rfl, ⟨Raw.of_block (heap_new_at (by simp)) rfl ⟨by first | omega | (simp; done) | (simp; omega), by first | omega | (simp; done) | (simp; omega)⟩ rfl (by simp) (by omega), hok.out⟩, by repeat (first | exact G1.out | refine Chg.alloc ?_ _)⟩
  · go_enter Try.func193, Try.ntmps193
    go_wp2_with fail
    refine (frontNeedle_any _ _).mono ?_
    rintro e w1 ⟨rfl, g1⟩
    have hsz := g1.size
    have G1 := Lib.hid g1
    clear g1
    go_wp2
    go_ret
    exact ⟨_, rfl, ⟨Raw.of_block (heap_new_at (by simp)) rfl ⟨by first | omega | (simp; done) | (simp; omega), by first | omega | (simp; done) | (simp; omega)⟩ rfl (by simp) (by omega), hok.out⟩, by repeat (first | exact G1.out | refine Chg.alloc ?_ _)⟩
  · go_enter Try.func193, Try.ntmps193
    go_wp2_with fail
    refine (frontNeedle_any _ _).mono ?_
    rintro e w1 ⟨rfl, g1⟩
    have hsz := g1.size
    have G1 := Lib.hid g1
    clear g1
    go_wp2
    go_ret
    exact ⟨_, rfl, ⟨Raw.of_block (heap_new_at (by simp)) rfl ⟨by first | omega | (simp; done) | (simp; omega), by first | omega | (simp; done) | (simp; omega)⟩ rfl (by simp) (by omega), hok.out⟩, by repeat (first | exact G1.out | refine Chg.alloc ?_ _)⟩
set_option maxHeartbeats 8000000 in
theorem l23Stitch_any (w : World) (kind n dir car : Int) (hk : 1 ≤ kind ∧ kind ≤ 11) (hp : 0 ≤ n ∧ n ≤ 100) (hd : dir = 1 ∨ dir = -1) (hc : 1 ≤ car ∧ car ≤ 4) :
    Calls Try.prog 183 #[.int .i64 kind, .int .i64 n, .int .i64 dir, .int .i64 car] w fun e w' => ∃ v, e = .returned v ∧ Ops w' (New w.heap.size w'.heap.size) v (stitchM kind n dir car) ∧ Up w w' := by
  have hok := Lib.hid (stitchM_ok (kind := kind) hp hd hc)
  clear hp hd hc
  have hs : kind = 1 ∨ kind = 2 ∨ kind = 3 ∨ kind = 4 ∨ kind = 5 ∨ kind = 6 ∨ kind = 7 ∨ kind = 8 ∨ kind = 9 ∨ kind = 10 ∨ kind = 11 := by omega
  clear hk
  rcases hs with rfl | rfl | rfl | rfl | rfl | rfl | rfl | rfl | rfl | rfl | rfl
  · go_enter Try.func183, Try.ntmps183
    go_wp2_with fail
    refine (l23Front_any _ _).mono ?_
    rintro e w1 ⟨rfl, g1⟩
    have hsz := g1.size
    have G1 := Lib.hid g1
    clear g1
    go_wp2_with fail
    refine (l23Yarn_any _ _ _ _ _ _).mono ?_
    rintro e w2 ⟨rfl, g2⟩
    have hsz2 := g2.size
    simp at hsz2
    have G2 := Lib.hid g2
    clear g2
    go_wp2
    go_ret
    exact ⟨_, rfl, ⟨Raw.of_block (heap_new_at (by simp)) rfl ⟨by first | omega | (simp; done) | (simp; omega), by first | omega | (simp; done) | (simp; omega)⟩ rfl (by simp) (by omega), hok.out⟩, Chg.alloc (Chg.trans ((G1.out.alloc _).alloc _) G2.out) _⟩
  · go_enter Try.func183, Try.ntmps183
    go_wp2_with fail
    refine (l23Front_any _ _).mono ?_
    rintro e w1 ⟨rfl, g1⟩
    have hsz := g1.size
    have G1 := Lib.hid g1
    clear g1
    go_wp2_with fail
    generalize hW : (w1.alloc (Obj.cells #[Value.int IntKind.i64 1, Value.int IntKind.i64 n] 107)).alloc (Obj.cells #[Value.int IntKind.i64 2, Value.int IntKind.i64 n] 107) = W
    have f0 : W.cell? ⟨w1.heap.size, 0, none⟩ = some (.int .i64 1) := by subst hW; go_simp
    have f1 : W.cell? ⟨w1.heap.size, 1, none⟩ = some (.int .i64 n) := by subst hW; go_simp
    have f2 : W.cell? ⟨w1.heap.size + 1, 0, none⟩ = some (.int .i64 2) := by subst hW; go_simp
    have f3 : W.cell? ⟨w1.heap.size + 1, 1, none⟩ = some (.int .i64 n) := by subst hW; go_simp
    have hW0 : w1.heap.size + 1 < W.heap.size := by subst hW; simp
    have HW := Lib.hid hW
    clear hW
    go_region_held3 (fun w' => w'.cell? ⟨w1.heap.size, 0, none⟩ = some (.int .i64 1) ∧ w'.cell? ⟨w1.heap.size, 1, none⟩ = some (.int .i64 n) ∧ w'.cell? ⟨w1.heap.size + 1, 0, none⟩ = some (.int .i64 2) ∧ w'.cell? ⟨w1.heap.size + 1, 1, none⟩ = some (.int .i64 n) ∧ Up W w') (first | (exact ⟨f0, f1, f2, f3, (Chg.refl _ _).drew⟩) | (obtain ⟨q0, q1, q2, q3, q4⟩ : (_ ∧ _ ∧ _ ∧ _ ∧ Up W _) := (by assumption); exact ⟨Chg.cell g2 q0 id, Chg.cell g2 q1 id, Chg.cell g2 q2 id, Chg.cell g2 q3 id, Chg.trans q4 g2⟩) | (obtain ⟨q0, q1, q2, q3, q4⟩ : (_ ∧ _ ∧ _ ∧ _ ∧ Up W _) := (by assumption); exact ⟨Chg.cell ((Chg.refl Nowhere _).alloc _) q0 id, Chg.cell ((Chg.refl Nowhere _).alloc _) q1 id, Chg.cell ((Chg.refl Nowhere _).alloc _) q2 id, Chg.cell ((Chg.refl Nowhere _).alloc _) q3 id, Chg.alloc q4 _⟩))
      (first | (go_at_call 222; refine (l23Yarn_any _ _ _ _ _ _).mono ?_; rintro e w2 ⟨rfl, g2⟩))
    have hz2 := g2.size
    rw [World.drew] at hz2
    simp only [] at hz2
    have GU := Lib.hid (show Up w w2 from Chg.trans (Chg.trans ((HW.out ▸ ((G1.out.alloc _).alloc _) : Up w W)) (Chg.refl _ _).drew) g2)
    clear f0 f1 f2 f3 HW g2
    go_wp2
    go_ret
    exact ⟨_, rfl, ⟨Raw.of_block (heap_new_at rfl) rfl ⟨by first | omega | (simp; done) | (simp; omega), by first | omega | (simp; done) | (simp; omega)⟩ rfl (by simp) (by omega), hok.out⟩, Chg.alloc GU.out _⟩
  · go_enter Try.func183, Try.ntmps183
    go_wp2_with fail
    refine (l23Front_any _ _).mono ?_
    rintro e w1 ⟨rfl, g1⟩
    have hsz := g1.size
    have G1 := Lib.hid g1
    clear g1
    go_wp2_with fail
    refine (l23Yarn_any _ _ _ _ _ _).mono ?_
    rintro e w2 ⟨rfl, g2⟩
    have hsz2 := g2.size
    simp at hsz2
    have G2 := Lib.hid g2
    clear g2
    go_wp2
    go_ret
    exact ⟨_, rfl, ⟨Raw.of_block (heap_new_at (by simp)) rfl ⟨by first | omega | (simp; done) | (simp; omega), by first | omega | (simp; done) | (simp; omega)⟩ rfl (by simp) (by omega), hok.out⟩, Chg.alloc (Chg.trans ((G1.out.alloc _).alloc _) G2.out) _⟩
  · go_enter Try.func183, Try.ntmps183
    go_wp2_with fail
    refine (l23Front_any _ _).mono ?_
    rintro e w1 ⟨rfl, g1⟩
    have hsz := g1.size
    have G1 := Lib.hid g1
    clear g1
    go_wp2_with fail
    refine (l23Yarn_any _ _ _ _ _ _).mono ?_
    rintro e w2 ⟨rfl, g2⟩
    have hsz2 := g2.size
    simp at hsz2
    have G2 := Lib.hid g2
    clear g2
    go_wp2
    go_ret
    exact ⟨_, rfl, ⟨Raw.of_block (heap_new_at (by simp)) rfl ⟨by first | omega | (simp; done) | (simp; omega), by first | omega | (simp; done) | (simp; omega)⟩ rfl (by simp) (by omega), hok.out⟩, Chg.alloc (Chg.trans ((G1.out.alloc _).alloc _) G2.out) _⟩
  · go_enter Try.func183, Try.ntmps183
    go_wp2_with fail
    refine (l23Front_any _ _).mono ?_
    rintro e w1 ⟨rfl, g1⟩
    have hsz := g1.size
    have G1 := Lib.hid g1
    clear g1
    go_wp2_with fail
    refine (l23Yarn_any _ _ _ _ _ _).mono ?_
    rintro e w2 ⟨rfl, g2⟩
    have hsz2 := g2.size
    simp at hsz2
    have G2 := Lib.hid g2
    clear g2
    go_wp2
    go_ret
    exact ⟨_, rfl, ⟨Raw.of_block (heap_new_at (by simp)) rfl ⟨by first | omega | (simp; done) | (simp; omega), by first | omega | (simp; done) | (simp; omega)⟩ rfl (by simp) (by omega), hok.out⟩, Chg.alloc (Chg.trans ((G1.out.alloc _).alloc _) G2.out) _⟩
  · go_enter Try.func183, Try.ntmps183
    go_wp2_with fail
    refine (l23Front_any _ _).mono ?_
    rintro e w1 ⟨rfl, g1⟩
    have hsz := g1.size
    have G1 := Lib.hid g1
    clear g1
    go_wp2_with fail
    refine (l23Yarn_any _ _ _ _ _ _).mono ?_
    rintro e w2 ⟨rfl, g2⟩
    have hsz2 := g2.size
    simp at hsz2
    have G2 := Lib.hid g2
    clear g2
    go_wp2
    go_ret
    exact ⟨_, rfl, ⟨Raw.of_block (heap_new_at (by simp)) rfl ⟨by first | omega | (simp; done) | (simp; omega), by first | omega | (simp; done) | (simp; omega)⟩ rfl (by simp) (by omega), hok.out⟩, Chg.alloc (Chg.trans ((G1.out.alloc _).alloc _) G2.out) _⟩
  · go_enter Try.func183, Try.ntmps183
    go_wp2_with fail
    refine (l23Front_any _ _).mono ?_
    rintro e w1 ⟨rfl, g1⟩
    have hsz := g1.size
    have G1 := Lib.hid g1
    clear g1
    go_wp2
    go_ret
    exact ⟨_, rfl, Ops.nil _ _ _ _ (by omega), by repeat (first | exact G1.out | refine Chg.alloc ?_ _)⟩
  · go_enter Try.func183, Try.ntmps183
    go_wp2_with fail
    refine (l23Front_any _ _).mono ?_
    rintro e w1 ⟨rfl, g1⟩
    have hsz := g1.size
    have G1 := Lib.hid g1
    clear g1
    go_wp2_with fail
    refine (l23Yarn_any _ _ _ _ _ _).mono ?_
    rintro e w2 ⟨rfl, g2⟩
    have hsz2 := g2.size
    simp at hsz2
    have G2 := Lib.hid g2
    clear g2
    go_wp2
    go_ret
    exact ⟨_, rfl, ⟨Raw.of_block (heap_new_at (by simp)) rfl ⟨by first | omega | (simp; done) | (simp; omega), by first | omega | (simp; done) | (simp; omega)⟩ rfl (by simp) (by omega), hok.out⟩, Chg.alloc (Chg.trans ((G1.out.alloc _).alloc _) G2.out) _⟩
  · go_enter Try.func183, Try.ntmps183
    go_wp2_with fail
    refine (l23Front_any _ _).mono ?_
    rintro e w1 ⟨rfl, g1⟩
    have hsz := g1.size
    have G1 := Lib.hid g1
    clear g1
    go_wp2_with fail
    refine (l23Yarn_any _ _ _ _ _ _).mono ?_
    rintro e w2 ⟨rfl, g2⟩
    have hsz2 := g2.size
    simp at hsz2
    have G2 := Lib.hid g2
    clear g2
    go_wp2
    go_ret
    exact ⟨_, rfl, ⟨Raw.of_block (heap_new_at (by simp)) rfl ⟨by first | omega | (simp; done) | (simp; omega), by first | omega | (simp; done) | (simp; omega)⟩ rfl (by simp) (by omega), hok.out⟩, Chg.alloc (Chg.trans ((G1.out.alloc _).alloc _) G2.out) _⟩
  · go_enter Try.func183, Try.ntmps183
    go_wp2_with fail
    refine (l23Front_any _ _).mono ?_
    rintro e w1 ⟨rfl, g1⟩
    have hsz := g1.size
    have G1 := Lib.hid g1
    clear g1
    go_wp2_with fail
    refine (l23Yarn_any _ _ _ _ _ _).mono ?_
    rintro e w2 ⟨rfl, g2⟩
    have hsz2 := g2.size
    simp at hsz2
    have G2 := Lib.hid g2
    clear g2
    go_wp2
    go_ret
    exact ⟨_, rfl, ⟨Raw.of_block (heap_new_at (by simp)) rfl ⟨by first | omega | (simp; done) | (simp; omega), by first | omega | (simp; done) | (simp; omega)⟩ rfl (by simp) (by omega), hok.out⟩, Chg.alloc (Chg.trans ((G1.out.alloc _).alloc _) G2.out) _⟩
  · go_enter Try.func183, Try.ntmps183
    go_wp2_with fail
    refine (l23Front_any _ _).mono ?_
    rintro e w1 ⟨rfl, g1⟩
    have hsz := g1.size
    have G1 := Lib.hid g1
    clear g1
    go_wp2_with fail
    refine (l23Yarn_any _ _ _ _ _ _).mono ?_
    rintro e w2 ⟨rfl, g2⟩
    have hsz2 := g2.size
    simp at hsz2
    have G2 := Lib.hid g2
    clear g2
    go_wp2
    go_ret
    exact ⟨_, rfl, ⟨Raw.of_block (heap_new_at (by simp)) rfl ⟨by first | omega | (simp; done) | (simp; omega), by first | omega | (simp; done) | (simp; omega)⟩ rfl (by simp) (by omega), hok.out⟩, Chg.alloc (Chg.trans ((G1.out.alloc _).alloc _) G2.out) _⟩
end Go.Proofs.Ytmimbnpcokfnlaa
