/- The reference's test of an operation behind a pointer. No condition. -/
import Derived.Test.YtplabnjdhkmmkaaPF11
import Derived.Test.YtplabnjdhkmmkaaPF8
import Derived.Test.YtplabnjdhkmmkaaPF2
set_option linter.unusedSimpArgs false
set_option linter.unusedVariables false
set_option maxRecDepth 100000
set_option maxHeartbeats 8000000
namespace Go.Proofs.Ytplabnjdhkmmkaa
open Go.ChangeShapes Go.WideShapes Go.ChangeAt Go.RowKit
attribute [local simp] validB rackB inB
theorem l07Op_1 (w : World) (b o : Nat) (d fb fa tb ta c r : Int) (f0 : w.cell? ⟨b, o, none⟩ = some (.int .i64 1)) (f1 : w.cell? ⟨b, o + 1, none⟩ = some (.int .i64 d)) (f2 : w.cell? ⟨b, o + 2, none⟩ = some (.int .i64 fb)) (f3 : w.cell? ⟨b, o + 2 + 1, none⟩ = some (.int .i64 fa)) (f4 : w.cell? ⟨b, o + 4, none⟩ = some (.int .i64 tb)) (f5 : w.cell? ⟨b, o + 4 + 1, none⟩ = some (.int .i64 ta)) (f6 : w.cell? ⟨b, o + 6, none⟩ = some (.int .i64 c)) (f7 : w.cell? ⟨b, o + 7, none⟩ = some (.int .i64 r)) (hb : b < w.heap.size) :
    Calls Try.prog 62 #[.pointer (some ⟨b, o, none⟩)] w fun e w' => e = .returned (.bool (validB (OpM.mk 1 d fb fa tb ta c r))) ∧ Up w w' := by
  have HG := Lib.hid ((Chg.refl Nowhere w).alloc (.cells #[.int .i64 0, .int .i64 0] 74))
  have e0 : (w.alloc (.cells #[.int .i64 0, .int .i64 0] 74)).cell? ⟨b, o, none⟩ = some (.int .i64 1) := Chg.cell HG.out f0 id
  have e1 : (w.alloc (.cells #[.int .i64 0, .int .i64 0] 74)).cell? ⟨b, o + 1, none⟩ = some (.int .i64 d) := Chg.cell HG.out f1 id
  have e2 : (w.alloc (.cells #[.int .i64 0, .int .i64 0] 74)).cell? ⟨b, o + 2, none⟩ = some (.int .i64 fb) := Chg.cell HG.out f2 id
  have e3 : (w.alloc (.cells #[.int .i64 0, .int .i64 0] 74)).cell? ⟨b, o + 2 + 1, none⟩ = some (.int .i64 fa) := Chg.cell HG.out f3 id
  have e4 : (w.alloc (.cells #[.int .i64 0, .int .i64 0] 74)).cell? ⟨b, o + 4, none⟩ = some (.int .i64 tb) := Chg.cell HG.out f4 id
  have e5 : (w.alloc (.cells #[.int .i64 0, .int .i64 0] 74)).cell? ⟨b, o + 4 + 1, none⟩ = some (.int .i64 ta) := Chg.cell HG.out f5 id
  have e6 : (w.alloc (.cells #[.int .i64 0, .int .i64 0] 74)).cell? ⟨b, o + 6, none⟩ = some (.int .i64 c) := Chg.cell HG.out f6 id
  have e7 : (w.alloc (.cells #[.int .i64 0, .int .i64 0] 74)).cell? ⟨b, o + 7, none⟩ = some (.int .i64 r) := Chg.cell HG.out f7 id
  have e8 : (w.alloc (.cells #[.int .i64 0, .int .i64 0] 74)).cell? ⟨w.heap.size, 0, none⟩ = some (.int .i64 0) := cell_new _ _ _ _
  have e9 : (w.alloc (.cells #[.int .i64 0, .int .i64 0] 74)).cell? ⟨w.heap.size, 1, none⟩ = some (.int .i64 0) := cell_new _ _ _ _
  go_enter Try.func62, Try.ntmps62
  go_wp2
  have q0 := up_cell e0
  have q1 := up_cell e1
  have q2 := up_cell e2
  have q3 := up_cell e3
  have q4 := up_cell e4
  have q5 := up_cell e5
  have q6 := up_cell e6
  have q7 := up_cell e7
  have q8 := up_cell e8
  have q9 := up_cell e9
  clear e0 e1 e2 e3 e4 e5 e6 e7 e8 e9
  refine wp_region_up (by kernel_rfl) (by kernel_rfl) ?_
  repeat (go_big_quiet_step ((first | (go_at_call 89; exact calls_up_same (l07Dir_any _ _)) | (go_at_call 91; exact calls_up_same (l07Yarn_any _ _)) | (go_at_call 64; exact calls_up_same (l00In_any _ _ _ _)) | (go_at_call 90; exact calls_up_new (l01Needle_any _ _ _)))))
  cases h1 : (dirB d) with
  | false =>
    repeat (go_big_quiet_step ((first | (go_at_call 89; exact calls_up_same (l07Dir_any _ _)) | (go_at_call 91; exact calls_up_same (l07Yarn_any _ _)) | (go_at_call 64; exact calls_up_same (l00In_any _ _ _ _)) | (go_at_call 90; exact calls_up_new (l01Needle_any _ _ _)))))
    refine wpQuiet_nil ?_
    rintro _ ⟨u, rfl⟩
    go_wp2
    go_ret
    exact ⟨ret_bool (by simp [*]), Chg.trans HG.out (Chg.trans u.up (by repeat (first | exact Chg.refl _ _ | apply Chg.drew | apply Chg.drewN | refine Chg.alloc ?_ _)))⟩
  | true =>
    repeat (go_big_quiet_step ((first | (go_at_call 89; exact calls_up_same (l07Dir_any _ _)) | (go_at_call 91; exact calls_up_same (l07Yarn_any _ _)) | (go_at_call 64; exact calls_up_same (l00In_any _ _ _ _)) | (go_at_call 90; exact calls_up_new (l01Needle_any _ _ _)))))
    cases h2 : (needleB fb fa) with
    | false =>
      repeat (go_big_quiet_step ((first | (go_at_call 89; exact calls_up_same (l07Dir_any _ _)) | (go_at_call 91; exact calls_up_same (l07Yarn_any _ _)) | (go_at_call 64; exact calls_up_same (l00In_any _ _ _ _)) | (go_at_call 90; exact calls_up_new (l01Needle_any _ _ _)))))
      refine wpQuiet_nil ?_
      rintro _ ⟨u, rfl⟩
      go_wp2
      go_ret
      exact ⟨ret_bool (by simp [*]), Chg.trans HG.out (Chg.trans u.up (by repeat (first | exact Chg.refl _ _ | apply Chg.drew | apply Chg.drewN | refine Chg.alloc ?_ _)))⟩
    | true =>
      repeat (go_big_quiet_step ((first | (go_at_call 89; exact calls_up_same (l07Dir_any _ _)) | (go_at_call 91; exact calls_up_same (l07Yarn_any _ _)) | (go_at_call 64; exact calls_up_same (l00In_any _ _ _ _)) | (go_at_call 90; exact calls_up_new (l01Needle_any _ _ _)))))
      cases h3 : (tb == 0) with
      | false =>
        repeat (go_big_quiet_step ((first | (go_at_call 89; exact calls_up_same (l07Dir_any _ _)) | (go_at_call 91; exact calls_up_same (l07Yarn_any _ _)) | (go_at_call 64; exact calls_up_same (l00In_any _ _ _ _)) | (go_at_call 90; exact calls_up_new (l01Needle_any _ _ _)))))
        refine wpQuiet_nil ?_
        rintro _ ⟨u, rfl⟩
        go_wp2
        go_ret
        exact ⟨ret_bool (by simp [*]), Chg.trans HG.out (Chg.trans u.up (by repeat (first | exact Chg.refl _ _ | apply Chg.drew | apply Chg.drewN | refine Chg.alloc ?_ _)))⟩
      | true =>
        repeat (go_big_quiet_step ((first | (go_at_call 89; exact calls_up_same (l07Dir_any _ _)) | (go_at_call 91; exact calls_up_same (l07Yarn_any _ _)) | (go_at_call 64; exact calls_up_same (l00In_any _ _ _ _)) | (go_at_call 90; exact calls_up_new (l01Needle_any _ _ _)))))
        cases h4 : (ta == 0) with
        | false =>
          repeat (go_big_quiet_step ((first | (go_at_call 89; exact calls_up_same (l07Dir_any _ _)) | (go_at_call 91; exact calls_up_same (l07Yarn_any _ _)) | (go_at_call 64; exact calls_up_same (l00In_any _ _ _ _)) | (go_at_call 90; exact calls_up_new (l01Needle_any _ _ _)))))
          refine wpQuiet_nil ?_
          rintro _ ⟨u, rfl⟩
          go_wp2
          go_ret
          exact ⟨ret_bool (by simp [*]), Chg.trans HG.out (Chg.trans u.up (by repeat (first | exact Chg.refl _ _ | apply Chg.drew | apply Chg.drewN | refine Chg.alloc ?_ _)))⟩
        | true =>
          repeat (go_big_quiet_step ((first | (go_at_call 89; exact calls_up_same (l07Dir_any _ _)) | (go_at_call 91; exact calls_up_same (l07Yarn_any _ _)) | (go_at_call 64; exact calls_up_same (l00In_any _ _ _ _)) | (go_at_call 90; exact calls_up_new (l01Needle_any _ _ _)))))
          cases h5 : (carB c) with
          | false =>
            repeat (go_big_quiet_step ((first | (go_at_call 89; exact calls_up_same (l07Dir_any _ _)) | (go_at_call 91; exact calls_up_same (l07Yarn_any _ _)) | (go_at_call 64; exact calls_up_same (l00In_any _ _ _ _)) | (go_at_call 90; exact calls_up_new (l01Needle_any _ _ _)))))
            refine wpQuiet_nil ?_
            rintro _ ⟨u, rfl⟩
            go_wp2
            go_ret
            exact ⟨ret_bool (by simp [*]), Chg.trans HG.out (Chg.trans u.up (by repeat (first | exact Chg.refl _ _ | apply Chg.drew | apply Chg.drewN | refine Chg.alloc ?_ _)))⟩
          | true =>
            repeat (go_big_quiet_step ((first | (go_at_call 89; exact calls_up_same (l07Dir_any _ _)) | (go_at_call 91; exact calls_up_same (l07Yarn_any _ _)) | (go_at_call 64; exact calls_up_same (l00In_any _ _ _ _)) | (go_at_call 90; exact calls_up_new (l01Needle_any _ _ _)))))
            cases h6 : (r == 0)
            all_goals
              repeat (go_big_quiet_step ((first | (go_at_call 89; exact calls_up_same (l07Dir_any _ _)) | (go_at_call 91; exact calls_up_same (l07Yarn_any _ _)) | (go_at_call 64; exact calls_up_same (l00In_any _ _ _ _)) | (go_at_call 90; exact calls_up_new (l01Needle_any _ _ _)))))
              refine wpQuiet_nil ?_
              rintro _ ⟨u, rfl⟩
              go_wp2
              go_ret
              exact ⟨ret_bool (by simp [*]), Chg.trans HG.out (Chg.trans u.up (by repeat (first | exact Chg.refl _ _ | apply Chg.drew | apply Chg.drewN | refine Chg.alloc ?_ _)))⟩
theorem l07Op_2 (w : World) (b o : Nat) (d fb fa tb ta c r : Int) (f0 : w.cell? ⟨b, o, none⟩ = some (.int .i64 2)) (f1 : w.cell? ⟨b, o + 1, none⟩ = some (.int .i64 d)) (f2 : w.cell? ⟨b, o + 2, none⟩ = some (.int .i64 fb)) (f3 : w.cell? ⟨b, o + 2 + 1, none⟩ = some (.int .i64 fa)) (f4 : w.cell? ⟨b, o + 4, none⟩ = some (.int .i64 tb)) (f5 : w.cell? ⟨b, o + 4 + 1, none⟩ = some (.int .i64 ta)) (f6 : w.cell? ⟨b, o + 6, none⟩ = some (.int .i64 c)) (f7 : w.cell? ⟨b, o + 7, none⟩ = some (.int .i64 r)) (hb : b < w.heap.size) :
    Calls Try.prog 62 #[.pointer (some ⟨b, o, none⟩)] w fun e w' => e = .returned (.bool (validB (OpM.mk 2 d fb fa tb ta c r))) ∧ Up w w' := by
  have HG := Lib.hid ((Chg.refl Nowhere w).alloc (.cells #[.int .i64 0, .int .i64 0] 74))
  have e0 : (w.alloc (.cells #[.int .i64 0, .int .i64 0] 74)).cell? ⟨b, o, none⟩ = some (.int .i64 2) := Chg.cell HG.out f0 id
  have e1 : (w.alloc (.cells #[.int .i64 0, .int .i64 0] 74)).cell? ⟨b, o + 1, none⟩ = some (.int .i64 d) := Chg.cell HG.out f1 id
  have e2 : (w.alloc (.cells #[.int .i64 0, .int .i64 0] 74)).cell? ⟨b, o + 2, none⟩ = some (.int .i64 fb) := Chg.cell HG.out f2 id
  have e3 : (w.alloc (.cells #[.int .i64 0, .int .i64 0] 74)).cell? ⟨b, o + 2 + 1, none⟩ = some (.int .i64 fa) := Chg.cell HG.out f3 id
  have e4 : (w.alloc (.cells #[.int .i64 0, .int .i64 0] 74)).cell? ⟨b, o + 4, none⟩ = some (.int .i64 tb) := Chg.cell HG.out f4 id
  have e5 : (w.alloc (.cells #[.int .i64 0, .int .i64 0] 74)).cell? ⟨b, o + 4 + 1, none⟩ = some (.int .i64 ta) := Chg.cell HG.out f5 id
  have e6 : (w.alloc (.cells #[.int .i64 0, .int .i64 0] 74)).cell? ⟨b, o + 6, none⟩ = some (.int .i64 c) := Chg.cell HG.out f6 id
  have e7 : (w.alloc (.cells #[.int .i64 0, .int .i64 0] 74)).cell? ⟨b, o + 7, none⟩ = some (.int .i64 r) := Chg.cell HG.out f7 id
  have e8 : (w.alloc (.cells #[.int .i64 0, .int .i64 0] 74)).cell? ⟨w.heap.size, 0, none⟩ = some (.int .i64 0) := cell_new _ _ _ _
  have e9 : (w.alloc (.cells #[.int .i64 0, .int .i64 0] 74)).cell? ⟨w.heap.size, 1, none⟩ = some (.int .i64 0) := cell_new _ _ _ _
  go_enter Try.func62, Try.ntmps62
  go_wp2
  have q0 := up_cell e0
  have q1 := up_cell e1
  have q2 := up_cell e2
  have q3 := up_cell e3
  have q4 := up_cell e4
  have q5 := up_cell e5
  have q6 := up_cell e6
  have q7 := up_cell e7
  have q8 := up_cell e8
  have q9 := up_cell e9
  clear e0 e1 e2 e3 e4 e5 e6 e7 e8 e9
  refine wp_region_up (by kernel_rfl) (by kernel_rfl) ?_
  repeat (go_big_quiet_step ((first | (go_at_call 89; exact calls_up_same (l07Dir_any _ _)) | (go_at_call 91; exact calls_up_same (l07Yarn_any _ _)) | (go_at_call 64; exact calls_up_same (l00In_any _ _ _ _)) | (go_at_call 90; exact calls_up_new (l01Needle_any _ _ _)))))
  cases h1 : (dirB d) with
  | false =>
    repeat (go_big_quiet_step ((first | (go_at_call 89; exact calls_up_same (l07Dir_any _ _)) | (go_at_call 91; exact calls_up_same (l07Yarn_any _ _)) | (go_at_call 64; exact calls_up_same (l00In_any _ _ _ _)) | (go_at_call 90; exact calls_up_new (l01Needle_any _ _ _)))))
    refine wpQuiet_nil ?_
    rintro _ ⟨u, rfl⟩
    go_wp2
    go_ret
    exact ⟨ret_bool (by simp [*]), Chg.trans HG.out (Chg.trans u.up (by repeat (first | exact Chg.refl _ _ | apply Chg.drew | apply Chg.drewN | refine Chg.alloc ?_ _)))⟩
  | true =>
    repeat (go_big_quiet_step ((first | (go_at_call 89; exact calls_up_same (l07Dir_any _ _)) | (go_at_call 91; exact calls_up_same (l07Yarn_any _ _)) | (go_at_call 64; exact calls_up_same (l00In_any _ _ _ _)) | (go_at_call 90; exact calls_up_new (l01Needle_any _ _ _)))))
    cases h2 : (needleB fb fa) with
    | false =>
      repeat (go_big_quiet_step ((first | (go_at_call 89; exact calls_up_same (l07Dir_any _ _)) | (go_at_call 91; exact calls_up_same (l07Yarn_any _ _)) | (go_at_call 64; exact calls_up_same (l00In_any _ _ _ _)) | (go_at_call 90; exact calls_up_new (l01Needle_any _ _ _)))))
      refine wpQuiet_nil ?_
      rintro _ ⟨u, rfl⟩
      go_wp2
      go_ret
      exact ⟨ret_bool (by simp [*]), Chg.trans HG.out (Chg.trans u.up (by repeat (first | exact Chg.refl _ _ | apply Chg.drew | apply Chg.drewN | refine Chg.alloc ?_ _)))⟩
    | true =>
      repeat (go_big_quiet_step ((first | (go_at_call 89; exact calls_up_same (l07Dir_any _ _)) | (go_at_call 91; exact calls_up_same (l07Yarn_any _ _)) | (go_at_call 64; exact calls_up_same (l00In_any _ _ _ _)) | (go_at_call 90; exact calls_up_new (l01Needle_any _ _ _)))))
      cases h3 : (tb == 0) with
      | false =>
        repeat (go_big_quiet_step ((first | (go_at_call 89; exact calls_up_same (l07Dir_any _ _)) | (go_at_call 91; exact calls_up_same (l07Yarn_any _ _)) | (go_at_call 64; exact calls_up_same (l00In_any _ _ _ _)) | (go_at_call 90; exact calls_up_new (l01Needle_any _ _ _)))))
        refine wpQuiet_nil ?_
        rintro _ ⟨u, rfl⟩
        go_wp2
        go_ret
        exact ⟨ret_bool (by simp [*]), Chg.trans HG.out (Chg.trans u.up (by repeat (first | exact Chg.refl _ _ | apply Chg.drew | apply Chg.drewN | refine Chg.alloc ?_ _)))⟩
      | true =>
        repeat (go_big_quiet_step ((first | (go_at_call 89; exact calls_up_same (l07Dir_any _ _)) | (go_at_call 91; exact calls_up_same (l07Yarn_any _ _)) | (go_at_call 64; exact calls_up_same (l00In_any _ _ _ _)) | (go_at_call 90; exact calls_up_new (l01Needle_any _ _ _)))))
        cases h4 : (ta == 0) with
        | false =>
          repeat (go_big_quiet_step ((first | (go_at_call 89; exact calls_up_same (l07Dir_any _ _)) | (go_at_call 91; exact calls_up_same (l07Yarn_any _ _)) | (go_at_call 64; exact calls_up_same (l00In_any _ _ _ _)) | (go_at_call 90; exact calls_up_new (l01Needle_any _ _ _)))))
          refine wpQuiet_nil ?_
          rintro _ ⟨u, rfl⟩
          go_wp2
          go_ret
          exact ⟨ret_bool (by simp [*]), Chg.trans HG.out (Chg.trans u.up (by repeat (first | exact Chg.refl _ _ | apply Chg.drew | apply Chg.drewN | refine Chg.alloc ?_ _)))⟩
        | true =>
          repeat (go_big_quiet_step ((first | (go_at_call 89; exact calls_up_same (l07Dir_any _ _)) | (go_at_call 91; exact calls_up_same (l07Yarn_any _ _)) | (go_at_call 64; exact calls_up_same (l00In_any _ _ _ _)) | (go_at_call 90; exact calls_up_new (l01Needle_any _ _ _)))))
          cases h5 : (carB c) with
          | false =>
            repeat (go_big_quiet_step ((first | (go_at_call 89; exact calls_up_same (l07Dir_any _ _)) | (go_at_call 91; exact calls_up_same (l07Yarn_any _ _)) | (go_at_call 64; exact calls_up_same (l00In_any _ _ _ _)) | (go_at_call 90; exact calls_up_new (l01Needle_any _ _ _)))))
            refine wpQuiet_nil ?_
            rintro _ ⟨u, rfl⟩
            go_wp2
            go_ret
            exact ⟨ret_bool (by simp [*]), Chg.trans HG.out (Chg.trans u.up (by repeat (first | exact Chg.refl _ _ | apply Chg.drew | apply Chg.drewN | refine Chg.alloc ?_ _)))⟩
          | true =>
            repeat (go_big_quiet_step ((first | (go_at_call 89; exact calls_up_same (l07Dir_any _ _)) | (go_at_call 91; exact calls_up_same (l07Yarn_any _ _)) | (go_at_call 64; exact calls_up_same (l00In_any _ _ _ _)) | (go_at_call 90; exact calls_up_new (l01Needle_any _ _ _)))))
            cases h6 : (r == 0)
            all_goals
              repeat (go_big_quiet_step ((first | (go_at_call 89; exact calls_up_same (l07Dir_any _ _)) | (go_at_call 91; exact calls_up_same (l07Yarn_any _ _)) | (go_at_call 64; exact calls_up_same (l00In_any _ _ _ _)) | (go_at_call 90; exact calls_up_new (l01Needle_any _ _ _)))))
              refine wpQuiet_nil ?_
              rintro _ ⟨u, rfl⟩
              go_wp2
              go_ret
              exact ⟨ret_bool (by simp [*]), Chg.trans HG.out (Chg.trans u.up (by repeat (first | exact Chg.refl _ _ | apply Chg.drew | apply Chg.drewN | refine Chg.alloc ?_ _)))⟩
theorem l07Op_3 (w : World) (b o : Nat) (d fb fa tb ta c r : Int) (f0 : w.cell? ⟨b, o, none⟩ = some (.int .i64 3)) (f1 : w.cell? ⟨b, o + 1, none⟩ = some (.int .i64 d)) (f2 : w.cell? ⟨b, o + 2, none⟩ = some (.int .i64 fb)) (f3 : w.cell? ⟨b, o + 2 + 1, none⟩ = some (.int .i64 fa)) (f4 : w.cell? ⟨b, o + 4, none⟩ = some (.int .i64 tb)) (f5 : w.cell? ⟨b, o + 4 + 1, none⟩ = some (.int .i64 ta)) (f6 : w.cell? ⟨b, o + 6, none⟩ = some (.int .i64 c)) (f7 : w.cell? ⟨b, o + 7, none⟩ = some (.int .i64 r)) (hb : b < w.heap.size) :
    Calls Try.prog 62 #[.pointer (some ⟨b, o, none⟩)] w fun e w' => e = .returned (.bool (validB (OpM.mk 3 d fb fa tb ta c r))) ∧ Up w w' := by
  have HG := Lib.hid ((Chg.refl Nowhere w).alloc (.cells #[.int .i64 0, .int .i64 0] 74))
  have e0 : (w.alloc (.cells #[.int .i64 0, .int .i64 0] 74)).cell? ⟨b, o, none⟩ = some (.int .i64 3) := Chg.cell HG.out f0 id
  have e1 : (w.alloc (.cells #[.int .i64 0, .int .i64 0] 74)).cell? ⟨b, o + 1, none⟩ = some (.int .i64 d) := Chg.cell HG.out f1 id
  have e2 : (w.alloc (.cells #[.int .i64 0, .int .i64 0] 74)).cell? ⟨b, o + 2, none⟩ = some (.int .i64 fb) := Chg.cell HG.out f2 id
  have e3 : (w.alloc (.cells #[.int .i64 0, .int .i64 0] 74)).cell? ⟨b, o + 2 + 1, none⟩ = some (.int .i64 fa) := Chg.cell HG.out f3 id
  have e4 : (w.alloc (.cells #[.int .i64 0, .int .i64 0] 74)).cell? ⟨b, o + 4, none⟩ = some (.int .i64 tb) := Chg.cell HG.out f4 id
  have e5 : (w.alloc (.cells #[.int .i64 0, .int .i64 0] 74)).cell? ⟨b, o + 4 + 1, none⟩ = some (.int .i64 ta) := Chg.cell HG.out f5 id
  have e6 : (w.alloc (.cells #[.int .i64 0, .int .i64 0] 74)).cell? ⟨b, o + 6, none⟩ = some (.int .i64 c) := Chg.cell HG.out f6 id
  have e7 : (w.alloc (.cells #[.int .i64 0, .int .i64 0] 74)).cell? ⟨b, o + 7, none⟩ = some (.int .i64 r) := Chg.cell HG.out f7 id
  have e8 : (w.alloc (.cells #[.int .i64 0, .int .i64 0] 74)).cell? ⟨w.heap.size, 0, none⟩ = some (.int .i64 0) := cell_new _ _ _ _
  have e9 : (w.alloc (.cells #[.int .i64 0, .int .i64 0] 74)).cell? ⟨w.heap.size, 1, none⟩ = some (.int .i64 0) := cell_new _ _ _ _
  go_enter Try.func62, Try.ntmps62
  go_wp2
  have q0 := up_cell e0
  have q1 := up_cell e1
  have q2 := up_cell e2
  have q3 := up_cell e3
  have q4 := up_cell e4
  have q5 := up_cell e5
  have q6 := up_cell e6
  have q7 := up_cell e7
  have q8 := up_cell e8
  have q9 := up_cell e9
  clear e0 e1 e2 e3 e4 e5 e6 e7 e8 e9
  refine wp_region_up (by kernel_rfl) (by kernel_rfl) ?_
  repeat (go_big_quiet_step ((first | (go_at_call 89; exact calls_up_same (l07Dir_any _ _)) | (go_at_call 91; exact calls_up_same (l07Yarn_any _ _)) | (go_at_call 64; exact calls_up_same (l00In_any _ _ _ _)) | (go_at_call 90; exact calls_up_new (l01Needle_any _ _ _)))))
  cases h1 : (dirB d) with
  | false =>
    repeat (go_big_quiet_step ((first | (go_at_call 89; exact calls_up_same (l07Dir_any _ _)) | (go_at_call 91; exact calls_up_same (l07Yarn_any _ _)) | (go_at_call 64; exact calls_up_same (l00In_any _ _ _ _)) | (go_at_call 90; exact calls_up_new (l01Needle_any _ _ _)))))
    refine wpQuiet_nil ?_
    rintro _ ⟨u, rfl⟩
    go_wp2
    go_ret
    exact ⟨ret_bool (by simp [*]), Chg.trans HG.out (Chg.trans u.up (by repeat (first | exact Chg.refl _ _ | apply Chg.drew | apply Chg.drewN | refine Chg.alloc ?_ _)))⟩
  | true =>
    repeat (go_big_quiet_step ((first | (go_at_call 89; exact calls_up_same (l07Dir_any _ _)) | (go_at_call 91; exact calls_up_same (l07Yarn_any _ _)) | (go_at_call 64; exact calls_up_same (l00In_any _ _ _ _)) | (go_at_call 90; exact calls_up_new (l01Needle_any _ _ _)))))
    cases h2 : (needleB fb fa) with
    | false =>
      repeat (go_big_quiet_step ((first | (go_at_call 89; exact calls_up_same (l07Dir_any _ _)) | (go_at_call 91; exact calls_up_same (l07Yarn_any _ _)) | (go_at_call 64; exact calls_up_same (l00In_any _ _ _ _)) | (go_at_call 90; exact calls_up_new (l01Needle_any _ _ _)))))
      refine wpQuiet_nil ?_
      rintro _ ⟨u, rfl⟩
      go_wp2
      go_ret
      exact ⟨ret_bool (by simp [*]), Chg.trans HG.out (Chg.trans u.up (by repeat (first | exact Chg.refl _ _ | apply Chg.drew | apply Chg.drewN | refine Chg.alloc ?_ _)))⟩
    | true =>
      repeat (go_big_quiet_step ((first | (go_at_call 89; exact calls_up_same (l07Dir_any _ _)) | (go_at_call 91; exact calls_up_same (l07Yarn_any _ _)) | (go_at_call 64; exact calls_up_same (l00In_any _ _ _ _)) | (go_at_call 90; exact calls_up_new (l01Needle_any _ _ _)))))
      cases h3 : (tb == 0) with
      | false =>
        repeat (go_big_quiet_step ((first | (go_at_call 89; exact calls_up_same (l07Dir_any _ _)) | (go_at_call 91; exact calls_up_same (l07Yarn_any _ _)) | (go_at_call 64; exact calls_up_same (l00In_any _ _ _ _)) | (go_at_call 90; exact calls_up_new (l01Needle_any _ _ _)))))
        refine wpQuiet_nil ?_
        rintro _ ⟨u, rfl⟩
        go_wp2
        go_ret
        exact ⟨ret_bool (by simp [*]), Chg.trans HG.out (Chg.trans u.up (by repeat (first | exact Chg.refl _ _ | apply Chg.drew | apply Chg.drewN | refine Chg.alloc ?_ _)))⟩
      | true =>
        repeat (go_big_quiet_step ((first | (go_at_call 89; exact calls_up_same (l07Dir_any _ _)) | (go_at_call 91; exact calls_up_same (l07Yarn_any _ _)) | (go_at_call 64; exact calls_up_same (l00In_any _ _ _ _)) | (go_at_call 90; exact calls_up_new (l01Needle_any _ _ _)))))
        cases h4 : (ta == 0) with
        | false =>
          repeat (go_big_quiet_step ((first | (go_at_call 89; exact calls_up_same (l07Dir_any _ _)) | (go_at_call 91; exact calls_up_same (l07Yarn_any _ _)) | (go_at_call 64; exact calls_up_same (l00In_any _ _ _ _)) | (go_at_call 90; exact calls_up_new (l01Needle_any _ _ _)))))
          refine wpQuiet_nil ?_
          rintro _ ⟨u, rfl⟩
          go_wp2
          go_ret
          exact ⟨ret_bool (by simp [*]), Chg.trans HG.out (Chg.trans u.up (by repeat (first | exact Chg.refl _ _ | apply Chg.drew | apply Chg.drewN | refine Chg.alloc ?_ _)))⟩
        | true =>
          repeat (go_big_quiet_step ((first | (go_at_call 89; exact calls_up_same (l07Dir_any _ _)) | (go_at_call 91; exact calls_up_same (l07Yarn_any _ _)) | (go_at_call 64; exact calls_up_same (l00In_any _ _ _ _)) | (go_at_call 90; exact calls_up_new (l01Needle_any _ _ _)))))
          cases h5 : (carB c) with
          | false =>
            repeat (go_big_quiet_step ((first | (go_at_call 89; exact calls_up_same (l07Dir_any _ _)) | (go_at_call 91; exact calls_up_same (l07Yarn_any _ _)) | (go_at_call 64; exact calls_up_same (l00In_any _ _ _ _)) | (go_at_call 90; exact calls_up_new (l01Needle_any _ _ _)))))
            refine wpQuiet_nil ?_
            rintro _ ⟨u, rfl⟩
            go_wp2
            go_ret
            exact ⟨ret_bool (by simp [*]), Chg.trans HG.out (Chg.trans u.up (by repeat (first | exact Chg.refl _ _ | apply Chg.drew | apply Chg.drewN | refine Chg.alloc ?_ _)))⟩
          | true =>
            repeat (go_big_quiet_step ((first | (go_at_call 89; exact calls_up_same (l07Dir_any _ _)) | (go_at_call 91; exact calls_up_same (l07Yarn_any _ _)) | (go_at_call 64; exact calls_up_same (l00In_any _ _ _ _)) | (go_at_call 90; exact calls_up_new (l01Needle_any _ _ _)))))
            cases h6 : (r == 0)
            all_goals
              repeat (go_big_quiet_step ((first | (go_at_call 89; exact calls_up_same (l07Dir_any _ _)) | (go_at_call 91; exact calls_up_same (l07Yarn_any _ _)) | (go_at_call 64; exact calls_up_same (l00In_any _ _ _ _)) | (go_at_call 90; exact calls_up_new (l01Needle_any _ _ _)))))
              refine wpQuiet_nil ?_
              rintro _ ⟨u, rfl⟩
              go_wp2
              go_ret
              exact ⟨ret_bool (by simp [*]), Chg.trans HG.out (Chg.trans u.up (by repeat (first | exact Chg.refl _ _ | apply Chg.drew | apply Chg.drewN | refine Chg.alloc ?_ _)))⟩
theorem l07Op_4 (w : World) (b o : Nat) (d fb fa tb ta c r : Int) (f0 : w.cell? ⟨b, o, none⟩ = some (.int .i64 4)) (f1 : w.cell? ⟨b, o + 1, none⟩ = some (.int .i64 d)) (f2 : w.cell? ⟨b, o + 2, none⟩ = some (.int .i64 fb)) (f3 : w.cell? ⟨b, o + 2 + 1, none⟩ = some (.int .i64 fa)) (f4 : w.cell? ⟨b, o + 4, none⟩ = some (.int .i64 tb)) (f5 : w.cell? ⟨b, o + 4 + 1, none⟩ = some (.int .i64 ta)) (f6 : w.cell? ⟨b, o + 6, none⟩ = some (.int .i64 c)) (f7 : w.cell? ⟨b, o + 7, none⟩ = some (.int .i64 r)) (hb : b < w.heap.size) :
    Calls Try.prog 62 #[.pointer (some ⟨b, o, none⟩)] w fun e w' => e = .returned (.bool (validB (OpM.mk 4 d fb fa tb ta c r))) ∧ Up w w' := by
  have HG := Lib.hid ((Chg.refl Nowhere w).alloc (.cells #[.int .i64 0, .int .i64 0] 74))
  have e0 : (w.alloc (.cells #[.int .i64 0, .int .i64 0] 74)).cell? ⟨b, o, none⟩ = some (.int .i64 4) := Chg.cell HG.out f0 id
  have e1 : (w.alloc (.cells #[.int .i64 0, .int .i64 0] 74)).cell? ⟨b, o + 1, none⟩ = some (.int .i64 d) := Chg.cell HG.out f1 id
  have e2 : (w.alloc (.cells #[.int .i64 0, .int .i64 0] 74)).cell? ⟨b, o + 2, none⟩ = some (.int .i64 fb) := Chg.cell HG.out f2 id
  have e3 : (w.alloc (.cells #[.int .i64 0, .int .i64 0] 74)).cell? ⟨b, o + 2 + 1, none⟩ = some (.int .i64 fa) := Chg.cell HG.out f3 id
  have e4 : (w.alloc (.cells #[.int .i64 0, .int .i64 0] 74)).cell? ⟨b, o + 4, none⟩ = some (.int .i64 tb) := Chg.cell HG.out f4 id
  have e5 : (w.alloc (.cells #[.int .i64 0, .int .i64 0] 74)).cell? ⟨b, o + 4 + 1, none⟩ = some (.int .i64 ta) := Chg.cell HG.out f5 id
  have e6 : (w.alloc (.cells #[.int .i64 0, .int .i64 0] 74)).cell? ⟨b, o + 6, none⟩ = some (.int .i64 c) := Chg.cell HG.out f6 id
  have e7 : (w.alloc (.cells #[.int .i64 0, .int .i64 0] 74)).cell? ⟨b, o + 7, none⟩ = some (.int .i64 r) := Chg.cell HG.out f7 id
  have e8 : (w.alloc (.cells #[.int .i64 0, .int .i64 0] 74)).cell? ⟨w.heap.size, 0, none⟩ = some (.int .i64 0) := cell_new _ _ _ _
  have e9 : (w.alloc (.cells #[.int .i64 0, .int .i64 0] 74)).cell? ⟨w.heap.size, 1, none⟩ = some (.int .i64 0) := cell_new _ _ _ _
  go_enter Try.func62, Try.ntmps62
  go_wp2
  have q0 := up_cell e0
  have q1 := up_cell e1
  have q2 := up_cell e2
  have q3 := up_cell e3
  have q4 := up_cell e4
  have q5 := up_cell e5
  have q6 := up_cell e6
  have q7 := up_cell e7
  have q8 := up_cell e8
  have q9 := up_cell e9
  clear e0 e1 e2 e3 e4 e5 e6 e7 e8 e9
  refine wp_region_up (by kernel_rfl) (by kernel_rfl) ?_
  repeat (go_big_quiet_step ((first | (go_at_call 89; exact calls_up_same (l07Dir_any _ _)) | (go_at_call 91; exact calls_up_same (l07Yarn_any _ _)) | (go_at_call 64; exact calls_up_same (l00In_any _ _ _ _)) | (go_at_call 90; exact calls_up_new (l01Needle_any _ _ _)))))
  cases h1 : (d == 0) with
  | false =>
    repeat (go_big_quiet_step ((first | (go_at_call 89; exact calls_up_same (l07Dir_any _ _)) | (go_at_call 91; exact calls_up_same (l07Yarn_any _ _)) | (go_at_call 64; exact calls_up_same (l00In_any _ _ _ _)) | (go_at_call 90; exact calls_up_new (l01Needle_any _ _ _)))))
    refine wpQuiet_nil ?_
    rintro _ ⟨u, rfl⟩
    go_wp2
    go_ret
    exact ⟨ret_bool (by simp [*]), Chg.trans HG.out (Chg.trans u.up (by repeat (first | exact Chg.refl _ _ | apply Chg.drew | apply Chg.drewN | refine Chg.alloc ?_ _)))⟩
  | true =>
    repeat (go_big_quiet_step ((first | (go_at_call 89; exact calls_up_same (l07Dir_any _ _)) | (go_at_call 91; exact calls_up_same (l07Yarn_any _ _)) | (go_at_call 64; exact calls_up_same (l00In_any _ _ _ _)) | (go_at_call 90; exact calls_up_new (l01Needle_any _ _ _)))))
    cases h2 : (needleB fb fa) with
    | false =>
      repeat (go_big_quiet_step ((first | (go_at_call 89; exact calls_up_same (l07Dir_any _ _)) | (go_at_call 91; exact calls_up_same (l07Yarn_any _ _)) | (go_at_call 64; exact calls_up_same (l00In_any _ _ _ _)) | (go_at_call 90; exact calls_up_new (l01Needle_any _ _ _)))))
      refine wpQuiet_nil ?_
      rintro _ ⟨u, rfl⟩
      go_wp2
      go_ret
      exact ⟨ret_bool (by simp [*]), Chg.trans HG.out (Chg.trans u.up (by repeat (first | exact Chg.refl _ _ | apply Chg.drew | apply Chg.drewN | refine Chg.alloc ?_ _)))⟩
    | true =>
      repeat (go_big_quiet_step ((first | (go_at_call 89; exact calls_up_same (l07Dir_any _ _)) | (go_at_call 91; exact calls_up_same (l07Yarn_any _ _)) | (go_at_call 64; exact calls_up_same (l00In_any _ _ _ _)) | (go_at_call 90; exact calls_up_new (l01Needle_any _ _ _)))))
      cases h3 : (needleB tb ta) with
      | false =>
        repeat (go_big_quiet_step ((first | (go_at_call 89; exact calls_up_same (l07Dir_any _ _)) | (go_at_call 91; exact calls_up_same (l07Yarn_any _ _)) | (go_at_call 64; exact calls_up_same (l00In_any _ _ _ _)) | (go_at_call 90; exact calls_up_new (l01Needle_any _ _ _)))))
        refine wpQuiet_nil ?_
        rintro _ ⟨u, rfl⟩
        go_wp2
        go_ret
        exact ⟨ret_bool (by simp [*]), Chg.trans HG.out (Chg.trans u.up (by repeat (first | exact Chg.refl _ _ | apply Chg.drew | apply Chg.drewN | refine Chg.alloc ?_ _)))⟩
      | true =>
        repeat (go_big_quiet_step ((first | (go_at_call 89; exact calls_up_same (l07Dir_any _ _)) | (go_at_call 91; exact calls_up_same (l07Yarn_any _ _)) | (go_at_call 64; exact calls_up_same (l00In_any _ _ _ _)) | (go_at_call 90; exact calls_up_new (l01Needle_any _ _ _)))))
        cases h4 : (fb != tb) with
        | false =>
          repeat (go_big_quiet_step ((first | (go_at_call 89; exact calls_up_same (l07Dir_any _ _)) | (go_at_call 91; exact calls_up_same (l07Yarn_any _ _)) | (go_at_call 64; exact calls_up_same (l00In_any _ _ _ _)) | (go_at_call 90; exact calls_up_new (l01Needle_any _ _ _)))))
          refine wpQuiet_nil ?_
          rintro _ ⟨u, rfl⟩
          go_wp2
          go_ret
          exact ⟨ret_bool (by simp [*]), Chg.trans HG.out (Chg.trans u.up (by repeat (first | exact Chg.refl _ _ | apply Chg.drew | apply Chg.drewN | refine Chg.alloc ?_ _)))⟩
        | true =>
          repeat (go_big_quiet_step ((first | (go_at_call 89; exact calls_up_same (l07Dir_any _ _)) | (go_at_call 91; exact calls_up_same (l07Yarn_any _ _)) | (go_at_call 64; exact calls_up_same (l00In_any _ _ _ _)) | (go_at_call 90; exact calls_up_new (l01Needle_any _ _ _)))))
          cases h5 : (c == 0) with
          | false =>
            repeat (go_big_quiet_step ((first | (go_at_call 89; exact calls_up_same (l07Dir_any _ _)) | (go_at_call 91; exact calls_up_same (l07Yarn_any _ _)) | (go_at_call 64; exact calls_up_same (l00In_any _ _ _ _)) | (go_at_call 90; exact calls_up_new (l01Needle_any _ _ _)))))
            refine wpQuiet_nil ?_
            rintro _ ⟨u, rfl⟩
            go_wp2
            go_ret
            exact ⟨ret_bool (by simp [*]), Chg.trans HG.out (Chg.trans u.up (by repeat (first | exact Chg.refl _ _ | apply Chg.drew | apply Chg.drewN | refine Chg.alloc ?_ _)))⟩
          | true =>
            repeat (go_big_quiet_step ((first | (go_at_call 89; exact calls_up_same (l07Dir_any _ _)) | (go_at_call 91; exact calls_up_same (l07Yarn_any _ _)) | (go_at_call 64; exact calls_up_same (l00In_any _ _ _ _)) | (go_at_call 90; exact calls_up_new (l01Needle_any _ _ _)))))
            cases h6 : (r == 0)
            all_goals
              repeat (go_big_quiet_step ((first | (go_at_call 89; exact calls_up_same (l07Dir_any _ _)) | (go_at_call 91; exact calls_up_same (l07Yarn_any _ _)) | (go_at_call 64; exact calls_up_same (l00In_any _ _ _ _)) | (go_at_call 90; exact calls_up_new (l01Needle_any _ _ _)))))
              refine wpQuiet_nil ?_
              rintro _ ⟨u, rfl⟩
              go_wp2
              go_ret
              exact ⟨ret_bool (by simp [*]), Chg.trans HG.out (Chg.trans u.up (by repeat (first | exact Chg.refl _ _ | apply Chg.drew | apply Chg.drewN | refine Chg.alloc ?_ _)))⟩
theorem l07Op_5 (w : World) (b o : Nat) (d fb fa tb ta c r : Int) (f0 : w.cell? ⟨b, o, none⟩ = some (.int .i64 5)) (f1 : w.cell? ⟨b, o + 1, none⟩ = some (.int .i64 d)) (f2 : w.cell? ⟨b, o + 2, none⟩ = some (.int .i64 fb)) (f3 : w.cell? ⟨b, o + 2 + 1, none⟩ = some (.int .i64 fa)) (f4 : w.cell? ⟨b, o + 4, none⟩ = some (.int .i64 tb)) (f5 : w.cell? ⟨b, o + 4 + 1, none⟩ = some (.int .i64 ta)) (f6 : w.cell? ⟨b, o + 6, none⟩ = some (.int .i64 c)) (f7 : w.cell? ⟨b, o + 7, none⟩ = some (.int .i64 r)) (hb : b < w.heap.size) :
    Calls Try.prog 62 #[.pointer (some ⟨b, o, none⟩)] w fun e w' => e = .returned (.bool (validB (OpM.mk 5 d fb fa tb ta c r))) ∧ Up w w' := by
  have HG := Lib.hid ((Chg.refl Nowhere w).alloc (.cells #[.int .i64 0, .int .i64 0] 74))
  have e0 : (w.alloc (.cells #[.int .i64 0, .int .i64 0] 74)).cell? ⟨b, o, none⟩ = some (.int .i64 5) := Chg.cell HG.out f0 id
  have e1 : (w.alloc (.cells #[.int .i64 0, .int .i64 0] 74)).cell? ⟨b, o + 1, none⟩ = some (.int .i64 d) := Chg.cell HG.out f1 id
  have e2 : (w.alloc (.cells #[.int .i64 0, .int .i64 0] 74)).cell? ⟨b, o + 2, none⟩ = some (.int .i64 fb) := Chg.cell HG.out f2 id
  have e3 : (w.alloc (.cells #[.int .i64 0, .int .i64 0] 74)).cell? ⟨b, o + 2 + 1, none⟩ = some (.int .i64 fa) := Chg.cell HG.out f3 id
  have e4 : (w.alloc (.cells #[.int .i64 0, .int .i64 0] 74)).cell? ⟨b, o + 4, none⟩ = some (.int .i64 tb) := Chg.cell HG.out f4 id
  have e5 : (w.alloc (.cells #[.int .i64 0, .int .i64 0] 74)).cell? ⟨b, o + 4 + 1, none⟩ = some (.int .i64 ta) := Chg.cell HG.out f5 id
  have e6 : (w.alloc (.cells #[.int .i64 0, .int .i64 0] 74)).cell? ⟨b, o + 6, none⟩ = some (.int .i64 c) := Chg.cell HG.out f6 id
  have e7 : (w.alloc (.cells #[.int .i64 0, .int .i64 0] 74)).cell? ⟨b, o + 7, none⟩ = some (.int .i64 r) := Chg.cell HG.out f7 id
  have e8 : (w.alloc (.cells #[.int .i64 0, .int .i64 0] 74)).cell? ⟨w.heap.size, 0, none⟩ = some (.int .i64 0) := cell_new _ _ _ _
  have e9 : (w.alloc (.cells #[.int .i64 0, .int .i64 0] 74)).cell? ⟨w.heap.size, 1, none⟩ = some (.int .i64 0) := cell_new _ _ _ _
  go_enter Try.func62, Try.ntmps62
  go_wp2
  have q0 := up_cell e0
  have q1 := up_cell e1
  have q2 := up_cell e2
  have q3 := up_cell e3
  have q4 := up_cell e4
  have q5 := up_cell e5
  have q6 := up_cell e6
  have q7 := up_cell e7
  have q8 := up_cell e8
  have q9 := up_cell e9
  clear e0 e1 e2 e3 e4 e5 e6 e7 e8 e9
  refine wp_region_up (by kernel_rfl) (by kernel_rfl) ?_
  repeat (go_big_quiet_step ((first | (go_at_call 89; exact calls_up_same (l07Dir_any _ _)) | (go_at_call 91; exact calls_up_same (l07Yarn_any _ _)) | (go_at_call 64; exact calls_up_same (l00In_any _ _ _ _)) | (go_at_call 90; exact calls_up_new (l01Needle_any _ _ _)))))
  cases h1 : (dirB d) with
  | false =>
    repeat (go_big_quiet_step ((first | (go_at_call 89; exact calls_up_same (l07Dir_any _ _)) | (go_at_call 91; exact calls_up_same (l07Yarn_any _ _)) | (go_at_call 64; exact calls_up_same (l00In_any _ _ _ _)) | (go_at_call 90; exact calls_up_new (l01Needle_any _ _ _)))))
    refine wpQuiet_nil ?_
    rintro _ ⟨u, rfl⟩
    go_wp2
    go_ret
    exact ⟨ret_bool (by simp [*]), Chg.trans HG.out (Chg.trans u.up (by repeat (first | exact Chg.refl _ _ | apply Chg.drew | apply Chg.drewN | refine Chg.alloc ?_ _)))⟩
  | true =>
    repeat (go_big_quiet_step ((first | (go_at_call 89; exact calls_up_same (l07Dir_any _ _)) | (go_at_call 91; exact calls_up_same (l07Yarn_any _ _)) | (go_at_call 64; exact calls_up_same (l00In_any _ _ _ _)) | (go_at_call 90; exact calls_up_new (l01Needle_any _ _ _)))))
    cases h2 : (needleB fb fa) with
    | false =>
      repeat (go_big_quiet_step ((first | (go_at_call 89; exact calls_up_same (l07Dir_any _ _)) | (go_at_call 91; exact calls_up_same (l07Yarn_any _ _)) | (go_at_call 64; exact calls_up_same (l00In_any _ _ _ _)) | (go_at_call 90; exact calls_up_new (l01Needle_any _ _ _)))))
      refine wpQuiet_nil ?_
      rintro _ ⟨u, rfl⟩
      go_wp2
      go_ret
      exact ⟨ret_bool (by simp [*]), Chg.trans HG.out (Chg.trans u.up (by repeat (first | exact Chg.refl _ _ | apply Chg.drew | apply Chg.drewN | refine Chg.alloc ?_ _)))⟩
    | true =>
      repeat (go_big_quiet_step ((first | (go_at_call 89; exact calls_up_same (l07Dir_any _ _)) | (go_at_call 91; exact calls_up_same (l07Yarn_any _ _)) | (go_at_call 64; exact calls_up_same (l00In_any _ _ _ _)) | (go_at_call 90; exact calls_up_new (l01Needle_any _ _ _)))))
      cases h3 : (needleB tb ta) with
      | false =>
        repeat (go_big_quiet_step ((first | (go_at_call 89; exact calls_up_same (l07Dir_any _ _)) | (go_at_call 91; exact calls_up_same (l07Yarn_any _ _)) | (go_at_call 64; exact calls_up_same (l00In_any _ _ _ _)) | (go_at_call 90; exact calls_up_new (l01Needle_any _ _ _)))))
        refine wpQuiet_nil ?_
        rintro _ ⟨u, rfl⟩
        go_wp2
        go_ret
        exact ⟨ret_bool (by simp [*]), Chg.trans HG.out (Chg.trans u.up (by repeat (first | exact Chg.refl _ _ | apply Chg.drew | apply Chg.drewN | refine Chg.alloc ?_ _)))⟩
      | true =>
        repeat (go_big_quiet_step ((first | (go_at_call 89; exact calls_up_same (l07Dir_any _ _)) | (go_at_call 91; exact calls_up_same (l07Yarn_any _ _)) | (go_at_call 64; exact calls_up_same (l00In_any _ _ _ _)) | (go_at_call 90; exact calls_up_new (l01Needle_any _ _ _)))))
        cases h4 : (fb != tb) with
        | false =>
          repeat (go_big_quiet_step ((first | (go_at_call 89; exact calls_up_same (l07Dir_any _ _)) | (go_at_call 91; exact calls_up_same (l07Yarn_any _ _)) | (go_at_call 64; exact calls_up_same (l00In_any _ _ _ _)) | (go_at_call 90; exact calls_up_new (l01Needle_any _ _ _)))))
          refine wpQuiet_nil ?_
          rintro _ ⟨u, rfl⟩
          go_wp2
          go_ret
          exact ⟨ret_bool (by simp [*]), Chg.trans HG.out (Chg.trans u.up (by repeat (first | exact Chg.refl _ _ | apply Chg.drew | apply Chg.drewN | refine Chg.alloc ?_ _)))⟩
        | true =>
          repeat (go_big_quiet_step ((first | (go_at_call 89; exact calls_up_same (l07Dir_any _ _)) | (go_at_call 91; exact calls_up_same (l07Yarn_any _ _)) | (go_at_call 64; exact calls_up_same (l00In_any _ _ _ _)) | (go_at_call 90; exact calls_up_new (l01Needle_any _ _ _)))))
          cases h5 : (carB c) with
          | false =>
            repeat (go_big_quiet_step ((first | (go_at_call 89; exact calls_up_same (l07Dir_any _ _)) | (go_at_call 91; exact calls_up_same (l07Yarn_any _ _)) | (go_at_call 64; exact calls_up_same (l00In_any _ _ _ _)) | (go_at_call 90; exact calls_up_new (l01Needle_any _ _ _)))))
            refine wpQuiet_nil ?_
            rintro _ ⟨u, rfl⟩
            go_wp2
            go_ret
            exact ⟨ret_bool (by simp [*]), Chg.trans HG.out (Chg.trans u.up (by repeat (first | exact Chg.refl _ _ | apply Chg.drew | apply Chg.drewN | refine Chg.alloc ?_ _)))⟩
          | true =>
            repeat (go_big_quiet_step ((first | (go_at_call 89; exact calls_up_same (l07Dir_any _ _)) | (go_at_call 91; exact calls_up_same (l07Yarn_any _ _)) | (go_at_call 64; exact calls_up_same (l00In_any _ _ _ _)) | (go_at_call 90; exact calls_up_new (l01Needle_any _ _ _)))))
            cases h6 : (r == 0)
            all_goals
              repeat (go_big_quiet_step ((first | (go_at_call 89; exact calls_up_same (l07Dir_any _ _)) | (go_at_call 91; exact calls_up_same (l07Yarn_any _ _)) | (go_at_call 64; exact calls_up_same (l00In_any _ _ _ _)) | (go_at_call 90; exact calls_up_new (l01Needle_any _ _ _)))))
              refine wpQuiet_nil ?_
              rintro _ ⟨u, rfl⟩
              go_wp2
              go_ret
              exact ⟨ret_bool (by simp [*]), Chg.trans HG.out (Chg.trans u.up (by repeat (first | exact Chg.refl _ _ | apply Chg.drew | apply Chg.drewN | refine Chg.alloc ?_ _)))⟩
theorem l07Op_6 (w : World) (b o : Nat) (d fb fa tb ta c r : Int) (f0 : w.cell? ⟨b, o, none⟩ = some (.int .i64 6)) (f1 : w.cell? ⟨b, o + 1, none⟩ = some (.int .i64 d)) (f2 : w.cell? ⟨b, o + 2, none⟩ = some (.int .i64 fb)) (f3 : w.cell? ⟨b, o + 2 + 1, none⟩ = some (.int .i64 fa)) (f4 : w.cell? ⟨b, o + 4, none⟩ = some (.int .i64 tb)) (f5 : w.cell? ⟨b, o + 4 + 1, none⟩ = some (.int .i64 ta)) (f6 : w.cell? ⟨b, o + 6, none⟩ = some (.int .i64 c)) (f7 : w.cell? ⟨b, o + 7, none⟩ = some (.int .i64 r)) (hb : b < w.heap.size) :
    Calls Try.prog 62 #[.pointer (some ⟨b, o, none⟩)] w fun e w' => e = .returned (.bool (validB (OpM.mk 6 d fb fa tb ta c r))) ∧ Up w w' := by
  have HG := Lib.hid ((Chg.refl Nowhere w).alloc (.cells #[.int .i64 0, .int .i64 0] 74))
  have e0 : (w.alloc (.cells #[.int .i64 0, .int .i64 0] 74)).cell? ⟨b, o, none⟩ = some (.int .i64 6) := Chg.cell HG.out f0 id
  have e1 : (w.alloc (.cells #[.int .i64 0, .int .i64 0] 74)).cell? ⟨b, o + 1, none⟩ = some (.int .i64 d) := Chg.cell HG.out f1 id
  have e2 : (w.alloc (.cells #[.int .i64 0, .int .i64 0] 74)).cell? ⟨b, o + 2, none⟩ = some (.int .i64 fb) := Chg.cell HG.out f2 id
  have e3 : (w.alloc (.cells #[.int .i64 0, .int .i64 0] 74)).cell? ⟨b, o + 2 + 1, none⟩ = some (.int .i64 fa) := Chg.cell HG.out f3 id
  have e4 : (w.alloc (.cells #[.int .i64 0, .int .i64 0] 74)).cell? ⟨b, o + 4, none⟩ = some (.int .i64 tb) := Chg.cell HG.out f4 id
  have e5 : (w.alloc (.cells #[.int .i64 0, .int .i64 0] 74)).cell? ⟨b, o + 4 + 1, none⟩ = some (.int .i64 ta) := Chg.cell HG.out f5 id
  have e6 : (w.alloc (.cells #[.int .i64 0, .int .i64 0] 74)).cell? ⟨b, o + 6, none⟩ = some (.int .i64 c) := Chg.cell HG.out f6 id
  have e7 : (w.alloc (.cells #[.int .i64 0, .int .i64 0] 74)).cell? ⟨b, o + 7, none⟩ = some (.int .i64 r) := Chg.cell HG.out f7 id
  have e8 : (w.alloc (.cells #[.int .i64 0, .int .i64 0] 74)).cell? ⟨w.heap.size, 0, none⟩ = some (.int .i64 0) := cell_new _ _ _ _
  have e9 : (w.alloc (.cells #[.int .i64 0, .int .i64 0] 74)).cell? ⟨w.heap.size, 1, none⟩ = some (.int .i64 0) := cell_new _ _ _ _
  go_enter Try.func62, Try.ntmps62
  go_wp2
  have q0 := up_cell e0
  have q1 := up_cell e1
  have q2 := up_cell e2
  have q3 := up_cell e3
  have q4 := up_cell e4
  have q5 := up_cell e5
  have q6 := up_cell e6
  have q7 := up_cell e7
  have q8 := up_cell e8
  have q9 := up_cell e9
  clear e0 e1 e2 e3 e4 e5 e6 e7 e8 e9
  refine wp_region_up (by kernel_rfl) (by kernel_rfl) ?_
  repeat (go_big_quiet_step ((first | (go_at_call 89; exact calls_up_same (l07Dir_any _ _)) | (go_at_call 91; exact calls_up_same (l07Yarn_any _ _)) | (go_at_call 64; exact calls_up_same (l00In_any _ _ _ _)) | (go_at_call 90; exact calls_up_new (l01Needle_any _ _ _)))))
  cases h1 : (d == 0) with
  | false =>
    repeat (go_big_quiet_step ((first | (go_at_call 89; exact calls_up_same (l07Dir_any _ _)) | (go_at_call 91; exact calls_up_same (l07Yarn_any _ _)) | (go_at_call 64; exact calls_up_same (l00In_any _ _ _ _)) | (go_at_call 90; exact calls_up_new (l01Needle_any _ _ _)))))
    refine wpQuiet_nil ?_
    rintro _ ⟨u, rfl⟩
    go_wp2
    go_ret
    exact ⟨ret_bool (by simp [*]), Chg.trans HG.out (Chg.trans u.up (by repeat (first | exact Chg.refl _ _ | apply Chg.drew | apply Chg.drewN | refine Chg.alloc ?_ _)))⟩
  | true =>
    repeat (go_big_quiet_step ((first | (go_at_call 89; exact calls_up_same (l07Dir_any _ _)) | (go_at_call 91; exact calls_up_same (l07Yarn_any _ _)) | (go_at_call 64; exact calls_up_same (l00In_any _ _ _ _)) | (go_at_call 90; exact calls_up_new (l01Needle_any _ _ _)))))
    cases h2 : (needleB fb fa) with
    | false =>
      repeat (go_big_quiet_step ((first | (go_at_call 89; exact calls_up_same (l07Dir_any _ _)) | (go_at_call 91; exact calls_up_same (l07Yarn_any _ _)) | (go_at_call 64; exact calls_up_same (l00In_any _ _ _ _)) | (go_at_call 90; exact calls_up_new (l01Needle_any _ _ _)))))
      refine wpQuiet_nil ?_
      rintro _ ⟨u, rfl⟩
      go_wp2
      go_ret
      exact ⟨ret_bool (by simp [*]), Chg.trans HG.out (Chg.trans u.up (by repeat (first | exact Chg.refl _ _ | apply Chg.drew | apply Chg.drewN | refine Chg.alloc ?_ _)))⟩
    | true =>
      repeat (go_big_quiet_step ((first | (go_at_call 89; exact calls_up_same (l07Dir_any _ _)) | (go_at_call 91; exact calls_up_same (l07Yarn_any _ _)) | (go_at_call 64; exact calls_up_same (l00In_any _ _ _ _)) | (go_at_call 90; exact calls_up_new (l01Needle_any _ _ _)))))
      cases h3 : (tb == 0) with
      | false =>
        repeat (go_big_quiet_step ((first | (go_at_call 89; exact calls_up_same (l07Dir_any _ _)) | (go_at_call 91; exact calls_up_same (l07Yarn_any _ _)) | (go_at_call 64; exact calls_up_same (l00In_any _ _ _ _)) | (go_at_call 90; exact calls_up_new (l01Needle_any _ _ _)))))
        refine wpQuiet_nil ?_
        rintro _ ⟨u, rfl⟩
        go_wp2
        go_ret
        exact ⟨ret_bool (by simp [*]), Chg.trans HG.out (Chg.trans u.up (by repeat (first | exact Chg.refl _ _ | apply Chg.drew | apply Chg.drewN | refine Chg.alloc ?_ _)))⟩
      | true =>
        repeat (go_big_quiet_step ((first | (go_at_call 89; exact calls_up_same (l07Dir_any _ _)) | (go_at_call 91; exact calls_up_same (l07Yarn_any _ _)) | (go_at_call 64; exact calls_up_same (l00In_any _ _ _ _)) | (go_at_call 90; exact calls_up_new (l01Needle_any _ _ _)))))
        cases h4 : (ta == 0) with
        | false =>
          repeat (go_big_quiet_step ((first | (go_at_call 89; exact calls_up_same (l07Dir_any _ _)) | (go_at_call 91; exact calls_up_same (l07Yarn_any _ _)) | (go_at_call 64; exact calls_up_same (l00In_any _ _ _ _)) | (go_at_call 90; exact calls_up_new (l01Needle_any _ _ _)))))
          refine wpQuiet_nil ?_
          rintro _ ⟨u, rfl⟩
          go_wp2
          go_ret
          exact ⟨ret_bool (by simp [*]), Chg.trans HG.out (Chg.trans u.up (by repeat (first | exact Chg.refl _ _ | apply Chg.drew | apply Chg.drewN | refine Chg.alloc ?_ _)))⟩
        | true =>
          repeat (go_big_quiet_step ((first | (go_at_call 89; exact calls_up_same (l07Dir_any _ _)) | (go_at_call 91; exact calls_up_same (l07Yarn_any _ _)) | (go_at_call 64; exact calls_up_same (l00In_any _ _ _ _)) | (go_at_call 90; exact calls_up_new (l01Needle_any _ _ _)))))
          cases h5 : (c == 0) with
          | false =>
            repeat (go_big_quiet_step ((first | (go_at_call 89; exact calls_up_same (l07Dir_any _ _)) | (go_at_call 91; exact calls_up_same (l07Yarn_any _ _)) | (go_at_call 64; exact calls_up_same (l00In_any _ _ _ _)) | (go_at_call 90; exact calls_up_new (l01Needle_any _ _ _)))))
            refine wpQuiet_nil ?_
            rintro _ ⟨u, rfl⟩
            go_wp2
            go_ret
            exact ⟨ret_bool (by simp [*]), Chg.trans HG.out (Chg.trans u.up (by repeat (first | exact Chg.refl _ _ | apply Chg.drew | apply Chg.drewN | refine Chg.alloc ?_ _)))⟩
          | true =>
            repeat (go_big_quiet_step ((first | (go_at_call 89; exact calls_up_same (l07Dir_any _ _)) | (go_at_call 91; exact calls_up_same (l07Yarn_any _ _)) | (go_at_call 64; exact calls_up_same (l00In_any _ _ _ _)) | (go_at_call 90; exact calls_up_new (l01Needle_any _ _ _)))))
            cases h6 : (r == 0)
            all_goals
              repeat (go_big_quiet_step ((first | (go_at_call 89; exact calls_up_same (l07Dir_any _ _)) | (go_at_call 91; exact calls_up_same (l07Yarn_any _ _)) | (go_at_call 64; exact calls_up_same (l00In_any _ _ _ _)) | (go_at_call 90; exact calls_up_new (l01Needle_any _ _ _)))))
              refine wpQuiet_nil ?_
              rintro _ ⟨u, rfl⟩
              go_wp2
              go_ret
              exact ⟨ret_bool (by simp [*]), Chg.trans HG.out (Chg.trans u.up (by repeat (first | exact Chg.refl _ _ | apply Chg.drew | apply Chg.drewN | refine Chg.alloc ?_ _)))⟩
theorem l07Op_7 (w : World) (b o : Nat) (d fb fa tb ta c r : Int) (f0 : w.cell? ⟨b, o, none⟩ = some (.int .i64 7)) (f1 : w.cell? ⟨b, o + 1, none⟩ = some (.int .i64 d)) (f2 : w.cell? ⟨b, o + 2, none⟩ = some (.int .i64 fb)) (f3 : w.cell? ⟨b, o + 2 + 1, none⟩ = some (.int .i64 fa)) (f4 : w.cell? ⟨b, o + 4, none⟩ = some (.int .i64 tb)) (f5 : w.cell? ⟨b, o + 4 + 1, none⟩ = some (.int .i64 ta)) (f6 : w.cell? ⟨b, o + 6, none⟩ = some (.int .i64 c)) (f7 : w.cell? ⟨b, o + 7, none⟩ = some (.int .i64 r)) (hb : b < w.heap.size) :
    Calls Try.prog 62 #[.pointer (some ⟨b, o, none⟩)] w fun e w' => e = .returned (.bool (validB (OpM.mk 7 d fb fa tb ta c r))) ∧ Up w w' := by
  have HG := Lib.hid ((Chg.refl Nowhere w).alloc (.cells #[.int .i64 0, .int .i64 0] 74))
  have e0 : (w.alloc (.cells #[.int .i64 0, .int .i64 0] 74)).cell? ⟨b, o, none⟩ = some (.int .i64 7) := Chg.cell HG.out f0 id
  have e1 : (w.alloc (.cells #[.int .i64 0, .int .i64 0] 74)).cell? ⟨b, o + 1, none⟩ = some (.int .i64 d) := Chg.cell HG.out f1 id
  have e2 : (w.alloc (.cells #[.int .i64 0, .int .i64 0] 74)).cell? ⟨b, o + 2, none⟩ = some (.int .i64 fb) := Chg.cell HG.out f2 id
  have e3 : (w.alloc (.cells #[.int .i64 0, .int .i64 0] 74)).cell? ⟨b, o + 2 + 1, none⟩ = some (.int .i64 fa) := Chg.cell HG.out f3 id
  have e4 : (w.alloc (.cells #[.int .i64 0, .int .i64 0] 74)).cell? ⟨b, o + 4, none⟩ = some (.int .i64 tb) := Chg.cell HG.out f4 id
  have e5 : (w.alloc (.cells #[.int .i64 0, .int .i64 0] 74)).cell? ⟨b, o + 4 + 1, none⟩ = some (.int .i64 ta) := Chg.cell HG.out f5 id
  have e6 : (w.alloc (.cells #[.int .i64 0, .int .i64 0] 74)).cell? ⟨b, o + 6, none⟩ = some (.int .i64 c) := Chg.cell HG.out f6 id
  have e7 : (w.alloc (.cells #[.int .i64 0, .int .i64 0] 74)).cell? ⟨b, o + 7, none⟩ = some (.int .i64 r) := Chg.cell HG.out f7 id
  have e8 : (w.alloc (.cells #[.int .i64 0, .int .i64 0] 74)).cell? ⟨w.heap.size, 0, none⟩ = some (.int .i64 0) := cell_new _ _ _ _
  have e9 : (w.alloc (.cells #[.int .i64 0, .int .i64 0] 74)).cell? ⟨w.heap.size, 1, none⟩ = some (.int .i64 0) := cell_new _ _ _ _
  go_enter Try.func62, Try.ntmps62
  go_wp2
  have q0 := up_cell e0
  have q1 := up_cell e1
  have q2 := up_cell e2
  have q3 := up_cell e3
  have q4 := up_cell e4
  have q5 := up_cell e5
  have q6 := up_cell e6
  have q7 := up_cell e7
  have q8 := up_cell e8
  have q9 := up_cell e9
  clear e0 e1 e2 e3 e4 e5 e6 e7 e8 e9
  refine wp_region_up (by kernel_rfl) (by kernel_rfl) ?_
  repeat (go_big_quiet_step ((first | (go_at_call 89; exact calls_up_same (l07Dir_any _ _)) | (go_at_call 91; exact calls_up_same (l07Yarn_any _ _)) | (go_at_call 64; exact calls_up_same (l00In_any _ _ _ _)) | (go_at_call 90; exact calls_up_new (l01Needle_any _ _ _)))))
  cases h1 : (d == 0) with
  | false =>
    repeat (go_big_quiet_step ((first | (go_at_call 89; exact calls_up_same (l07Dir_any _ _)) | (go_at_call 91; exact calls_up_same (l07Yarn_any _ _)) | (go_at_call 64; exact calls_up_same (l00In_any _ _ _ _)) | (go_at_call 90; exact calls_up_new (l01Needle_any _ _ _)))))
    refine wpQuiet_nil ?_
    rintro _ ⟨u, rfl⟩
    go_wp2
    go_ret
    exact ⟨ret_bool (by simp [*]), Chg.trans HG.out (Chg.trans u.up (by repeat (first | exact Chg.refl _ _ | apply Chg.drew | apply Chg.drewN | refine Chg.alloc ?_ _)))⟩
  | true =>
    repeat (go_big_quiet_step ((first | (go_at_call 89; exact calls_up_same (l07Dir_any _ _)) | (go_at_call 91; exact calls_up_same (l07Yarn_any _ _)) | (go_at_call 64; exact calls_up_same (l00In_any _ _ _ _)) | (go_at_call 90; exact calls_up_new (l01Needle_any _ _ _)))))
    cases h2 : (fb == 0) with
    | false =>
      repeat (go_big_quiet_step ((first | (go_at_call 89; exact calls_up_same (l07Dir_any _ _)) | (go_at_call 91; exact calls_up_same (l07Yarn_any _ _)) | (go_at_call 64; exact calls_up_same (l00In_any _ _ _ _)) | (go_at_call 90; exact calls_up_new (l01Needle_any _ _ _)))))
      refine wpQuiet_nil ?_
      rintro _ ⟨u, rfl⟩
      go_wp2
      go_ret
      exact ⟨ret_bool (by simp [*]), Chg.trans HG.out (Chg.trans u.up (by repeat (first | exact Chg.refl _ _ | apply Chg.drew | apply Chg.drewN | refine Chg.alloc ?_ _)))⟩
    | true =>
      repeat (go_big_quiet_step ((first | (go_at_call 89; exact calls_up_same (l07Dir_any _ _)) | (go_at_call 91; exact calls_up_same (l07Yarn_any _ _)) | (go_at_call 64; exact calls_up_same (l00In_any _ _ _ _)) | (go_at_call 90; exact calls_up_new (l01Needle_any _ _ _)))))
      cases h3 : (fa == 0) with
      | false =>
        repeat (go_big_quiet_step ((first | (go_at_call 89; exact calls_up_same (l07Dir_any _ _)) | (go_at_call 91; exact calls_up_same (l07Yarn_any _ _)) | (go_at_call 64; exact calls_up_same (l00In_any _ _ _ _)) | (go_at_call 90; exact calls_up_new (l01Needle_any _ _ _)))))
        refine wpQuiet_nil ?_
        rintro _ ⟨u, rfl⟩
        go_wp2
        go_ret
        exact ⟨ret_bool (by simp [*]), Chg.trans HG.out (Chg.trans u.up (by repeat (first | exact Chg.refl _ _ | apply Chg.drew | apply Chg.drewN | refine Chg.alloc ?_ _)))⟩
      | true =>
        repeat (go_big_quiet_step ((first | (go_at_call 89; exact calls_up_same (l07Dir_any _ _)) | (go_at_call 91; exact calls_up_same (l07Yarn_any _ _)) | (go_at_call 64; exact calls_up_same (l00In_any _ _ _ _)) | (go_at_call 90; exact calls_up_new (l01Needle_any _ _ _)))))
        cases h4 : (tb == 0) with
        | false =>
          repeat (go_big_quiet_step ((first | (go_at_call 89; exact calls_up_same (l07Dir_any _ _)) | (go_at_call 91; exact calls_up_same (l07Yarn_any _ _)) | (go_at_call 64; exact calls_up_same (l00In_any _ _ _ _)) | (go_at_call 90; exact calls_up_new (l01Needle_any _ _ _)))))
          refine wpQuiet_nil ?_
          rintro _ ⟨u, rfl⟩
          go_wp2
          go_ret
          exact ⟨ret_bool (by simp [*]), Chg.trans HG.out (Chg.trans u.up (by repeat (first | exact Chg.refl _ _ | apply Chg.drew | apply Chg.drewN | refine Chg.alloc ?_ _)))⟩
        | true =>
          repeat (go_big_quiet_step ((first | (go_at_call 89; exact calls_up_same (l07Dir_any _ _)) | (go_at_call 91; exact calls_up_same (l07Yarn_any _ _)) | (go_at_call 64; exact calls_up_same (l00In_any _ _ _ _)) | (go_at_call 90; exact calls_up_new (l01Needle_any _ _ _)))))
          cases h5 : (ta == 0) with
          | false =>
            repeat (go_big_quiet_step ((first | (go_at_call 89; exact calls_up_same (l07Dir_any _ _)) | (go_at_call 91; exact calls_up_same (l07Yarn_any _ _)) | (go_at_call 64; exact calls_up_same (l00In_any _ _ _ _)) | (go_at_call 90; exact calls_up_new (l01Needle_any _ _ _)))))
            refine wpQuiet_nil ?_
            rintro _ ⟨u, rfl⟩
            go_wp2
            go_ret
            exact ⟨ret_bool (by simp [*]), Chg.trans HG.out (Chg.trans u.up (by repeat (first | exact Chg.refl _ _ | apply Chg.drew | apply Chg.drewN | refine Chg.alloc ?_ _)))⟩
          | true =>
            repeat (go_big_quiet_step ((first | (go_at_call 89; exact calls_up_same (l07Dir_any _ _)) | (go_at_call 91; exact calls_up_same (l07Yarn_any _ _)) | (go_at_call 64; exact calls_up_same (l00In_any _ _ _ _)) | (go_at_call 90; exact calls_up_new (l01Needle_any _ _ _)))))
            cases h6 : (c == 0)
            all_goals
              repeat (go_big_quiet_step ((first | (go_at_call 89; exact calls_up_same (l07Dir_any _ _)) | (go_at_call 91; exact calls_up_same (l07Yarn_any _ _)) | (go_at_call 64; exact calls_up_same (l00In_any _ _ _ _)) | (go_at_call 90; exact calls_up_new (l01Needle_any _ _ _)))))
              refine wpQuiet_nil ?_
              rintro _ ⟨u, rfl⟩
              go_wp2
              go_ret
              exact ⟨ret_bool (by simp [*]), Chg.trans HG.out (Chg.trans u.up (by repeat (first | exact Chg.refl _ _ | apply Chg.drew | apply Chg.drewN | refine Chg.alloc ?_ _)))⟩
theorem l07Op_8 (w : World) (b o : Nat) (d fb fa tb ta c r : Int) (f0 : w.cell? ⟨b, o, none⟩ = some (.int .i64 8)) (f1 : w.cell? ⟨b, o + 1, none⟩ = some (.int .i64 d)) (f2 : w.cell? ⟨b, o + 2, none⟩ = some (.int .i64 fb)) (f3 : w.cell? ⟨b, o + 2 + 1, none⟩ = some (.int .i64 fa)) (f4 : w.cell? ⟨b, o + 4, none⟩ = some (.int .i64 tb)) (f5 : w.cell? ⟨b, o + 4 + 1, none⟩ = some (.int .i64 ta)) (f6 : w.cell? ⟨b, o + 6, none⟩ = some (.int .i64 c)) (f7 : w.cell? ⟨b, o + 7, none⟩ = some (.int .i64 r)) (hb : b < w.heap.size) :
    Calls Try.prog 62 #[.pointer (some ⟨b, o, none⟩)] w fun e w' => e = .returned (.bool (validB (OpM.mk 8 d fb fa tb ta c r))) ∧ Up w w' := by
  have HG := Lib.hid ((Chg.refl Nowhere w).alloc (.cells #[.int .i64 0, .int .i64 0] 74))
  have e0 : (w.alloc (.cells #[.int .i64 0, .int .i64 0] 74)).cell? ⟨b, o, none⟩ = some (.int .i64 8) := Chg.cell HG.out f0 id
  have e1 : (w.alloc (.cells #[.int .i64 0, .int .i64 0] 74)).cell? ⟨b, o + 1, none⟩ = some (.int .i64 d) := Chg.cell HG.out f1 id
  have e2 : (w.alloc (.cells #[.int .i64 0, .int .i64 0] 74)).cell? ⟨b, o + 2, none⟩ = some (.int .i64 fb) := Chg.cell HG.out f2 id
  have e3 : (w.alloc (.cells #[.int .i64 0, .int .i64 0] 74)).cell? ⟨b, o + 2 + 1, none⟩ = some (.int .i64 fa) := Chg.cell HG.out f3 id
  have e4 : (w.alloc (.cells #[.int .i64 0, .int .i64 0] 74)).cell? ⟨b, o + 4, none⟩ = some (.int .i64 tb) := Chg.cell HG.out f4 id
  have e5 : (w.alloc (.cells #[.int .i64 0, .int .i64 0] 74)).cell? ⟨b, o + 4 + 1, none⟩ = some (.int .i64 ta) := Chg.cell HG.out f5 id
  have e6 : (w.alloc (.cells #[.int .i64 0, .int .i64 0] 74)).cell? ⟨b, o + 6, none⟩ = some (.int .i64 c) := Chg.cell HG.out f6 id
  have e7 : (w.alloc (.cells #[.int .i64 0, .int .i64 0] 74)).cell? ⟨b, o + 7, none⟩ = some (.int .i64 r) := Chg.cell HG.out f7 id
  have e8 : (w.alloc (.cells #[.int .i64 0, .int .i64 0] 74)).cell? ⟨w.heap.size, 0, none⟩ = some (.int .i64 0) := cell_new _ _ _ _
  have e9 : (w.alloc (.cells #[.int .i64 0, .int .i64 0] 74)).cell? ⟨w.heap.size, 1, none⟩ = some (.int .i64 0) := cell_new _ _ _ _
  go_enter Try.func62, Try.ntmps62
  go_wp2
  have q0 := up_cell e0
  have q1 := up_cell e1
  have q2 := up_cell e2
  have q3 := up_cell e3
  have q4 := up_cell e4
  have q5 := up_cell e5
  have q6 := up_cell e6
  have q7 := up_cell e7
  have q8 := up_cell e8
  have q9 := up_cell e9
  clear e0 e1 e2 e3 e4 e5 e6 e7 e8 e9
  refine wp_region_up (by kernel_rfl) (by kernel_rfl) ?_
  repeat (go_big_quiet_step ((first | (go_at_call 89; exact calls_up_same (l07Dir_any _ _)) | (go_at_call 91; exact calls_up_same (l07Yarn_any _ _)) | (go_at_call 64; exact calls_up_same (l00In_any _ _ _ _)) | (go_at_call 90; exact calls_up_new (l01Needle_any _ _ _)))))
  cases h1 : (fb == 0) with
  | false =>
    repeat (go_big_quiet_step ((first | (go_at_call 89; exact calls_up_same (l07Dir_any _ _)) | (go_at_call 91; exact calls_up_same (l07Yarn_any _ _)) | (go_at_call 64; exact calls_up_same (l00In_any _ _ _ _)) | (go_at_call 90; exact calls_up_new (l01Needle_any _ _ _)))))
    refine wpQuiet_nil ?_
    rintro _ ⟨u, rfl⟩
    go_wp2
    go_ret
    exact ⟨ret_bool (by simp [*]), Chg.trans HG.out (Chg.trans u.up (by repeat (first | exact Chg.refl _ _ | apply Chg.drew | apply Chg.drewN | refine Chg.alloc ?_ _)))⟩
  | true =>
    repeat (go_big_quiet_step ((first | (go_at_call 89; exact calls_up_same (l07Dir_any _ _)) | (go_at_call 91; exact calls_up_same (l07Yarn_any _ _)) | (go_at_call 64; exact calls_up_same (l00In_any _ _ _ _)) | (go_at_call 90; exact calls_up_new (l01Needle_any _ _ _)))))
    cases h2 : (fa == 0) with
    | false =>
      repeat (go_big_quiet_step ((first | (go_at_call 89; exact calls_up_same (l07Dir_any _ _)) | (go_at_call 91; exact calls_up_same (l07Yarn_any _ _)) | (go_at_call 64; exact calls_up_same (l00In_any _ _ _ _)) | (go_at_call 90; exact calls_up_new (l01Needle_any _ _ _)))))
      refine wpQuiet_nil ?_
      rintro _ ⟨u, rfl⟩
      go_wp2
      go_ret
      exact ⟨ret_bool (by simp [*]), Chg.trans HG.out (Chg.trans u.up (by repeat (first | exact Chg.refl _ _ | apply Chg.drew | apply Chg.drewN | refine Chg.alloc ?_ _)))⟩
    | true =>
      repeat (go_big_quiet_step ((first | (go_at_call 89; exact calls_up_same (l07Dir_any _ _)) | (go_at_call 91; exact calls_up_same (l07Yarn_any _ _)) | (go_at_call 64; exact calls_up_same (l00In_any _ _ _ _)) | (go_at_call 90; exact calls_up_new (l01Needle_any _ _ _)))))
      cases h3 : (tb == 0) with
      | false =>
        repeat (go_big_quiet_step ((first | (go_at_call 89; exact calls_up_same (l07Dir_any _ _)) | (go_at_call 91; exact calls_up_same (l07Yarn_any _ _)) | (go_at_call 64; exact calls_up_same (l00In_any _ _ _ _)) | (go_at_call 90; exact calls_up_new (l01Needle_any _ _ _)))))
        refine wpQuiet_nil ?_
        rintro _ ⟨u, rfl⟩
        go_wp2
        go_ret
        exact ⟨ret_bool (by simp [*]), Chg.trans HG.out (Chg.trans u.up (by repeat (first | exact Chg.refl _ _ | apply Chg.drew | apply Chg.drewN | refine Chg.alloc ?_ _)))⟩
      | true =>
        repeat (go_big_quiet_step ((first | (go_at_call 89; exact calls_up_same (l07Dir_any _ _)) | (go_at_call 91; exact calls_up_same (l07Yarn_any _ _)) | (go_at_call 64; exact calls_up_same (l00In_any _ _ _ _)) | (go_at_call 90; exact calls_up_new (l01Needle_any _ _ _)))))
        cases h4 : (ta == 0) with
        | false =>
          repeat (go_big_quiet_step ((first | (go_at_call 89; exact calls_up_same (l07Dir_any _ _)) | (go_at_call 91; exact calls_up_same (l07Yarn_any _ _)) | (go_at_call 64; exact calls_up_same (l00In_any _ _ _ _)) | (go_at_call 90; exact calls_up_new (l01Needle_any _ _ _)))))
          refine wpQuiet_nil ?_
          rintro _ ⟨u, rfl⟩
          go_wp2
          go_ret
          exact ⟨ret_bool (by simp [*]), Chg.trans HG.out (Chg.trans u.up (by repeat (first | exact Chg.refl _ _ | apply Chg.drew | apply Chg.drewN | refine Chg.alloc ?_ _)))⟩
        | true =>
          repeat (go_big_quiet_step ((first | (go_at_call 89; exact calls_up_same (l07Dir_any _ _)) | (go_at_call 91; exact calls_up_same (l07Yarn_any _ _)) | (go_at_call 64; exact calls_up_same (l00In_any _ _ _ _)) | (go_at_call 90; exact calls_up_new (l01Needle_any _ _ _)))))
          cases h5 : (r == 0) with
          | false =>
            repeat (go_big_quiet_step ((first | (go_at_call 89; exact calls_up_same (l07Dir_any _ _)) | (go_at_call 91; exact calls_up_same (l07Yarn_any _ _)) | (go_at_call 64; exact calls_up_same (l00In_any _ _ _ _)) | (go_at_call 90; exact calls_up_new (l01Needle_any _ _ _)))))
            refine wpQuiet_nil ?_
            rintro _ ⟨u, rfl⟩
            go_wp2
            go_ret
            exact ⟨ret_bool (by simp [*]), Chg.trans HG.out (Chg.trans u.up (by repeat (first | exact Chg.refl _ _ | apply Chg.drew | apply Chg.drewN | refine Chg.alloc ?_ _)))⟩
          | true =>
            repeat (go_big_quiet_step ((first | (go_at_call 89; exact calls_up_same (l07Dir_any _ _)) | (go_at_call 91; exact calls_up_same (l07Yarn_any _ _)) | (go_at_call 64; exact calls_up_same (l00In_any _ _ _ _)) | (go_at_call 90; exact calls_up_new (l01Needle_any _ _ _)))))
            cases h6 : (dirB d)
            all_goals
              repeat (go_big_quiet_step ((first | (go_at_call 89; exact calls_up_same (l07Dir_any _ _)) | (go_at_call 91; exact calls_up_same (l07Yarn_any _ _)) | (go_at_call 64; exact calls_up_same (l00In_any _ _ _ _)) | (go_at_call 90; exact calls_up_new (l01Needle_any _ _ _)))))
              refine wpQuiet_nil ?_
              rintro _ ⟨u, rfl⟩
              go_wp2
              go_ret
              exact ⟨ret_bool (by simp [*]), Chg.trans HG.out (Chg.trans u.up (by repeat (first | exact Chg.refl _ _ | apply Chg.drew | apply Chg.drewN | refine Chg.alloc ?_ _)))⟩
theorem l07Op_9 (w : World) (b o : Nat) (d fb fa tb ta c r : Int) (f0 : w.cell? ⟨b, o, none⟩ = some (.int .i64 9)) (f1 : w.cell? ⟨b, o + 1, none⟩ = some (.int .i64 d)) (f2 : w.cell? ⟨b, o + 2, none⟩ = some (.int .i64 fb)) (f3 : w.cell? ⟨b, o + 2 + 1, none⟩ = some (.int .i64 fa)) (f4 : w.cell? ⟨b, o + 4, none⟩ = some (.int .i64 tb)) (f5 : w.cell? ⟨b, o + 4 + 1, none⟩ = some (.int .i64 ta)) (f6 : w.cell? ⟨b, o + 6, none⟩ = some (.int .i64 c)) (f7 : w.cell? ⟨b, o + 7, none⟩ = some (.int .i64 r)) (hb : b < w.heap.size) :
    Calls Try.prog 62 #[.pointer (some ⟨b, o, none⟩)] w fun e w' => e = .returned (.bool (validB (OpM.mk 9 d fb fa tb ta c r))) ∧ Up w w' := by
  have HG := Lib.hid ((Chg.refl Nowhere w).alloc (.cells #[.int .i64 0, .int .i64 0] 74))
  have e0 : (w.alloc (.cells #[.int .i64 0, .int .i64 0] 74)).cell? ⟨b, o, none⟩ = some (.int .i64 9) := Chg.cell HG.out f0 id
  have e1 : (w.alloc (.cells #[.int .i64 0, .int .i64 0] 74)).cell? ⟨b, o + 1, none⟩ = some (.int .i64 d) := Chg.cell HG.out f1 id
  have e2 : (w.alloc (.cells #[.int .i64 0, .int .i64 0] 74)).cell? ⟨b, o + 2, none⟩ = some (.int .i64 fb) := Chg.cell HG.out f2 id
  have e3 : (w.alloc (.cells #[.int .i64 0, .int .i64 0] 74)).cell? ⟨b, o + 2 + 1, none⟩ = some (.int .i64 fa) := Chg.cell HG.out f3 id
  have e4 : (w.alloc (.cells #[.int .i64 0, .int .i64 0] 74)).cell? ⟨b, o + 4, none⟩ = some (.int .i64 tb) := Chg.cell HG.out f4 id
  have e5 : (w.alloc (.cells #[.int .i64 0, .int .i64 0] 74)).cell? ⟨b, o + 4 + 1, none⟩ = some (.int .i64 ta) := Chg.cell HG.out f5 id
  have e6 : (w.alloc (.cells #[.int .i64 0, .int .i64 0] 74)).cell? ⟨b, o + 6, none⟩ = some (.int .i64 c) := Chg.cell HG.out f6 id
  have e7 : (w.alloc (.cells #[.int .i64 0, .int .i64 0] 74)).cell? ⟨b, o + 7, none⟩ = some (.int .i64 r) := Chg.cell HG.out f7 id
  have e8 : (w.alloc (.cells #[.int .i64 0, .int .i64 0] 74)).cell? ⟨w.heap.size, 0, none⟩ = some (.int .i64 0) := cell_new _ _ _ _
  have e9 : (w.alloc (.cells #[.int .i64 0, .int .i64 0] 74)).cell? ⟨w.heap.size, 1, none⟩ = some (.int .i64 0) := cell_new _ _ _ _
  go_enter Try.func62, Try.ntmps62
  go_wp2
  have q0 := up_cell e0
  have q1 := up_cell e1
  have q2 := up_cell e2
  have q3 := up_cell e3
  have q4 := up_cell e4
  have q5 := up_cell e5
  have q6 := up_cell e6
  have q7 := up_cell e7
  have q8 := up_cell e8
  have q9 := up_cell e9
  clear e0 e1 e2 e3 e4 e5 e6 e7 e8 e9
  refine wp_region_up (by kernel_rfl) (by kernel_rfl) ?_
  repeat (go_big_quiet_step ((first | (go_at_call 89; exact calls_up_same (l07Dir_any _ _)) | (go_at_call 91; exact calls_up_same (l07Yarn_any _ _)) | (go_at_call 64; exact calls_up_same (l00In_any _ _ _ _)) | (go_at_call 90; exact calls_up_new (l01Needle_any _ _ _)))))
  cases h1 : (d == 0) with
  | false =>
    repeat (go_big_quiet_step ((first | (go_at_call 89; exact calls_up_same (l07Dir_any _ _)) | (go_at_call 91; exact calls_up_same (l07Yarn_any _ _)) | (go_at_call 64; exact calls_up_same (l00In_any _ _ _ _)) | (go_at_call 90; exact calls_up_new (l01Needle_any _ _ _)))))
    refine wpQuiet_nil ?_
    rintro _ ⟨u, rfl⟩
    go_wp2
    go_ret
    exact ⟨ret_bool (by simp [*]), Chg.trans HG.out (Chg.trans u.up (by repeat (first | exact Chg.refl _ _ | apply Chg.drew | apply Chg.drewN | refine Chg.alloc ?_ _)))⟩
  | true =>
    repeat (go_big_quiet_step ((first | (go_at_call 89; exact calls_up_same (l07Dir_any _ _)) | (go_at_call 91; exact calls_up_same (l07Yarn_any _ _)) | (go_at_call 64; exact calls_up_same (l00In_any _ _ _ _)) | (go_at_call 90; exact calls_up_new (l01Needle_any _ _ _)))))
    cases h2 : (fb == 0) with
    | false =>
      repeat (go_big_quiet_step ((first | (go_at_call 89; exact calls_up_same (l07Dir_any _ _)) | (go_at_call 91; exact calls_up_same (l07Yarn_any _ _)) | (go_at_call 64; exact calls_up_same (l00In_any _ _ _ _)) | (go_at_call 90; exact calls_up_new (l01Needle_any _ _ _)))))
      refine wpQuiet_nil ?_
      rintro _ ⟨u, rfl⟩
      go_wp2
      go_ret
      exact ⟨ret_bool (by simp [*]), Chg.trans HG.out (Chg.trans u.up (by repeat (first | exact Chg.refl _ _ | apply Chg.drew | apply Chg.drewN | refine Chg.alloc ?_ _)))⟩
    | true =>
      repeat (go_big_quiet_step ((first | (go_at_call 89; exact calls_up_same (l07Dir_any _ _)) | (go_at_call 91; exact calls_up_same (l07Yarn_any _ _)) | (go_at_call 64; exact calls_up_same (l00In_any _ _ _ _)) | (go_at_call 90; exact calls_up_new (l01Needle_any _ _ _)))))
      cases h3 : (fa == 0) with
      | false =>
        repeat (go_big_quiet_step ((first | (go_at_call 89; exact calls_up_same (l07Dir_any _ _)) | (go_at_call 91; exact calls_up_same (l07Yarn_any _ _)) | (go_at_call 64; exact calls_up_same (l00In_any _ _ _ _)) | (go_at_call 90; exact calls_up_new (l01Needle_any _ _ _)))))
        refine wpQuiet_nil ?_
        rintro _ ⟨u, rfl⟩
        go_wp2
        go_ret
        exact ⟨ret_bool (by simp [*]), Chg.trans HG.out (Chg.trans u.up (by repeat (first | exact Chg.refl _ _ | apply Chg.drew | apply Chg.drewN | refine Chg.alloc ?_ _)))⟩
      | true =>
        repeat (go_big_quiet_step ((first | (go_at_call 89; exact calls_up_same (l07Dir_any _ _)) | (go_at_call 91; exact calls_up_same (l07Yarn_any _ _)) | (go_at_call 64; exact calls_up_same (l00In_any _ _ _ _)) | (go_at_call 90; exact calls_up_new (l01Needle_any _ _ _)))))
        cases h4 : (tb == 0) with
        | false =>
          repeat (go_big_quiet_step ((first | (go_at_call 89; exact calls_up_same (l07Dir_any _ _)) | (go_at_call 91; exact calls_up_same (l07Yarn_any _ _)) | (go_at_call 64; exact calls_up_same (l00In_any _ _ _ _)) | (go_at_call 90; exact calls_up_new (l01Needle_any _ _ _)))))
          refine wpQuiet_nil ?_
          rintro _ ⟨u, rfl⟩
          go_wp2
          go_ret
          exact ⟨ret_bool (by simp [*]), Chg.trans HG.out (Chg.trans u.up (by repeat (first | exact Chg.refl _ _ | apply Chg.drew | apply Chg.drewN | refine Chg.alloc ?_ _)))⟩
        | true =>
          repeat (go_big_quiet_step ((first | (go_at_call 89; exact calls_up_same (l07Dir_any _ _)) | (go_at_call 91; exact calls_up_same (l07Yarn_any _ _)) | (go_at_call 64; exact calls_up_same (l00In_any _ _ _ _)) | (go_at_call 90; exact calls_up_new (l01Needle_any _ _ _)))))
          cases h5 : (ta == 0) with
          | false =>
            repeat (go_big_quiet_step ((first | (go_at_call 89; exact calls_up_same (l07Dir_any _ _)) | (go_at_call 91; exact calls_up_same (l07Yarn_any _ _)) | (go_at_call 64; exact calls_up_same (l00In_any _ _ _ _)) | (go_at_call 90; exact calls_up_new (l01Needle_any _ _ _)))))
            refine wpQuiet_nil ?_
            rintro _ ⟨u, rfl⟩
            go_wp2
            go_ret
            exact ⟨ret_bool (by simp [*]), Chg.trans HG.out (Chg.trans u.up (by repeat (first | exact Chg.refl _ _ | apply Chg.drew | apply Chg.drewN | refine Chg.alloc ?_ _)))⟩
          | true =>
            repeat (go_big_quiet_step ((first | (go_at_call 89; exact calls_up_same (l07Dir_any _ _)) | (go_at_call 91; exact calls_up_same (l07Yarn_any _ _)) | (go_at_call 64; exact calls_up_same (l00In_any _ _ _ _)) | (go_at_call 90; exact calls_up_new (l01Needle_any _ _ _)))))
            cases h6 : (r == 0) with
            | false =>
              repeat (go_big_quiet_step ((first | (go_at_call 89; exact calls_up_same (l07Dir_any _ _)) | (go_at_call 91; exact calls_up_same (l07Yarn_any _ _)) | (go_at_call 64; exact calls_up_same (l00In_any _ _ _ _)) | (go_at_call 90; exact calls_up_new (l01Needle_any _ _ _)))))
              refine wpQuiet_nil ?_
              rintro _ ⟨u, rfl⟩
              go_wp2
              go_ret
              exact ⟨ret_bool (by simp [*]), Chg.trans HG.out (Chg.trans u.up (by repeat (first | exact Chg.refl _ _ | apply Chg.drew | apply Chg.drewN | refine Chg.alloc ?_ _)))⟩
            | true =>
              repeat (go_big_quiet_step ((first | (go_at_call 89; exact calls_up_same (l07Dir_any _ _)) | (go_at_call 91; exact calls_up_same (l07Yarn_any _ _)) | (go_at_call 64; exact calls_up_same (l00In_any _ _ _ _)) | (go_at_call 90; exact calls_up_new (l01Needle_any _ _ _)))))
              cases h7 : (carB c)
              all_goals
                repeat (go_big_quiet_step ((first | (go_at_call 89; exact calls_up_same (l07Dir_any _ _)) | (go_at_call 91; exact calls_up_same (l07Yarn_any _ _)) | (go_at_call 64; exact calls_up_same (l00In_any _ _ _ _)) | (go_at_call 90; exact calls_up_new (l01Needle_any _ _ _)))))
                refine wpQuiet_nil ?_
                rintro _ ⟨u, rfl⟩
                go_wp2
                go_ret
                exact ⟨ret_bool (by simp [*]), Chg.trans HG.out (Chg.trans u.up (by repeat (first | exact Chg.refl _ _ | apply Chg.drew | apply Chg.drewN | refine Chg.alloc ?_ _)))⟩
theorem l07Op_0 (w : World) (b o : Nat) (k : Int) (n1 : (k == 1) = false) (n2 : (k == 2) = false) (n3 : (k == 3) = false) (n4 : (k == 4) = false) (n5 : (k == 5) = false) (n6 : (k == 6) = false) (n7 : (k == 7) = false) (n8 : (k == 8) = false) (n9 : (k == 9) = false) (f0 : w.cell? ⟨b, o, none⟩ = some (.int .i64 k)) (hb : b < w.heap.size) :
    Calls Try.prog 62 #[.pointer (some ⟨b, o, none⟩)] w fun e w' => e = .returned (.bool false) ∧ Up w w' := by
  have f0' := Chg.cell ((Chg.refl Nowhere w).alloc (.cells #[.int .i64 0, .int .i64 0] 74)) f0 id
  go_enter Try.func62, Try.ntmps62
  go_wp2
  go_ret
  exact ⟨rfl, (by repeat (first | exact Chg.refl _ _ | apply Chg.drew | apply Chg.drewN | refine Chg.alloc ?_ _))⟩
/-- an operation in the midst of a block -/
def OpAt (w : World) (b o : Nat) (x : OpM) : Prop :=
  b < w.heap.size ∧ w.cell? ⟨b, o, none⟩ = some (.int .i64 x.kind) ∧ w.cell? ⟨b, o + 1, none⟩ = some (.int .i64 x.dir) ∧ w.cell? ⟨b, o + 2, none⟩ = some (.int .i64 x.fb) ∧ w.cell? ⟨b, o + 2 + 1, none⟩ = some (.int .i64 x.fa) ∧ w.cell? ⟨b, o + 4, none⟩ = some (.int .i64 x.tb) ∧ w.cell? ⟨b, o + 4 + 1, none⟩ = some (.int .i64 x.ta) ∧ w.cell? ⟨b, o + 6, none⟩ = some (.int .i64 x.car) ∧ w.cell? ⟨b, o + 7, none⟩ = some (.int .i64 x.rack)
theorem OpAt.keep {w w' : World} {b o : Nat} {x : OpM} {T : Nat → Prop} (h : OpAt w b o x) (g : Chg T w w') (hT : ¬ T b) : OpAt w' b o x := by
  obtain ⟨hb, f0, f1, f2, f3, f4, f5, f6, f7⟩ := h
  exact ⟨Nat.lt_of_lt_of_le hb g.size, Chg.cell g f0 hT, Chg.cell g f1 hT, Chg.cell g f2 hT, Chg.cell g f3 hT, Chg.cell g f4 hT, Chg.cell g f5 hT, Chg.cell g f6 hT, Chg.cell g f7 hT⟩
theorem OpAt.up {w w' : World} {b o : Nat} {x : OpM} (h : OpAt w b o x) (g : Up w w') : OpAt w' b o x := h.keep g id
theorem l07Op_any (w : World) (b o : Nat) (x : OpM) (h : OpAt w b o x) :
    Calls Try.prog 62 #[.pointer (some ⟨b, o, none⟩)] w fun e w' => e = .returned (.bool (validB x)) ∧ Up w w' := by
  obtain ⟨hb, f0, f1, f2, f3, f4, f5, f6, f7⟩ := h
  obtain ⟨k, d, fb, fa, tb, ta, c, r⟩ := x
  dsimp only at f0 f1 f2 f3 f4 f5 f6 f7
  by_cases h1 : k = 1
  · subst h1; exact l07Op_1 w b o d fb fa tb ta c r f0 f1 f2 f3 f4 f5 f6 f7 hb
  by_cases h2 : k = 2
  · subst h2; exact l07Op_2 w b o d fb fa tb ta c r f0 f1 f2 f3 f4 f5 f6 f7 hb
  by_cases h3 : k = 3
  · subst h3; exact l07Op_3 w b o d fb fa tb ta c r f0 f1 f2 f3 f4 f5 f6 f7 hb
  by_cases h4 : k = 4
  · subst h4; exact l07Op_4 w b o d fb fa tb ta c r f0 f1 f2 f3 f4 f5 f6 f7 hb
  by_cases h5 : k = 5
  · subst h5; exact l07Op_5 w b o d fb fa tb ta c r f0 f1 f2 f3 f4 f5 f6 f7 hb
  by_cases h6 : k = 6
  · subst h6; exact l07Op_6 w b o d fb fa tb ta c r f0 f1 f2 f3 f4 f5 f6 f7 hb
  by_cases h7 : k = 7
  · subst h7; exact l07Op_7 w b o d fb fa tb ta c r f0 f1 f2 f3 f4 f5 f6 f7 hb
  by_cases h8 : k = 8
  · subst h8; exact l07Op_8 w b o d fb fa tb ta c r f0 f1 f2 f3 f4 f5 f6 f7 hb
  by_cases h9 : k = 9
  · subst h9; exact l07Op_9 w b o d fb fa tb ta c r f0 f1 f2 f3 f4 f5 f6 f7 hb
  have hv : validB ⟨k, d, fb, fa, tb, ta, c, r⟩ = false := by simp [*]
  rw [hv]
  exact l07Op_0 w b o k (by simpa using h1) (by simpa using h2) (by simpa using h3) (by simpa using h4) (by simpa using h5) (by simpa using h6) (by simpa using h7) (by simpa using h8) (by simpa using h9) f0 hb
theorem Ops.opAt {w : World} {S : Nat → Prop} {v : Value} {xs : List OpM} (h : Ops w S v xs) {i : Nat} (hi : i < xs.length) :
    ∃ b o c, v = .slice (some ⟨b, o, none⟩) xs.length c ∧ S b ∧ OpAt w b (o + i * 8) xs[i] := by
  obtain ⟨b, o, c, rfl, hS, hb, hc⟩ := h.at_ hi
  refine ⟨b, o, c, rfl, hS, hb, ?_, (hc 1 _ rfl).1, (hc 2 _ rfl).1, (hc 3 _ rfl).1, (hc 4 _ rfl).1, (hc 5 _ rfl).1, (hc 6 _ rfl).1, (hc 7 _ rfl).1⟩
  have := (hc 0 _ rfl).1
  rwa [Nat.add_zero] at this
end Go.Proofs.Ytplabnjdhkmmkaa
