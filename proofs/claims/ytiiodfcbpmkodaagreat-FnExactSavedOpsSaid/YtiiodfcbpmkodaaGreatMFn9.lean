/- The program's execution of an operation. Condition: room. -/
import Derived.Test.YtiiodfcbpmkodaaGreatMFn8
set_option linter.unusedSimpArgs false
set_option linter.unusedVariables false
set_option maxRecDepth 100000
set_option maxHeartbeats 8000000
namespace Go.Proofs.YtiiodfcbpmkodaaGreat
open Go.ChangeShapes Go.WideShapes Go.ChangeAt Go.RowKit
attribute [local go_sem ↓] Go.wp_at_zero Go.wp_at_succ
theorem opCode_c (w : World) {S : Nat → Prop} {K p : Nat} {m : MachM} {F B C L D : Value} {fs bs : List Value} (h : MachX w S K p m F B C L D fs bs) (hi : MInv m) (x : OpM) (hx : okOp m.wd x) {c : Int} (h0 : codeM m x = c) :
    Calls Tryz.prog 79 #[.pointer (some ⟨p, 0, none⟩), x.val] w fun e w' => e = .returned (.int .i64 c) ∧ Up w w' := by
  rw [← h0]; exact opCode_any w h hi x hx
theorem execute_bad (w : World) {S : Nat → Prop} {K p : Nat} {m : MachM} {F B C L D : Value} {fs bs : List Value} (h : MachX w S K p m F B C L D fs bs) (hi : MInv m) (k d fb fa tb ta car rk : Int) (hx : okOp m.wd ⟨k, d, fb, fa, tb, ta, car, rk⟩) (h0 : codeM m ⟨k, d, fb, fa, tb, ta, car, rk⟩ ≠ 0) :
    Calls Tryz.prog 69 #[.pointer (some ⟨p, 0, none⟩), .agg #[.int .i64 k, .int .i64 d, .int .i64 fb, .int .i64 fa, .int .i64 tb, .int .i64 ta, .int .i64 car, .int .i64 rk]] w fun e w' => e = .returned (.int .i64 (codeM m ⟨k, d, fb, fa, tb, ta, car, rk⟩)) ∧ Mach w' S K p m ∧ Up w w' := by
  have HX := Lib.hid hx
  have Hi := Lib.hid hi
  obtain ⟨c, HC⟩ : ∃ c, Hid (codeM m ⟨k, d, fb, fa, tb, ta, car, rk⟩ = c) := ⟨_, rfl⟩
  have h1 : (c == 0) = false := by rw [← HC.out]; simpa using h0
  have h2 : (c != 0) = true := by rw [← HC.out]; simpa using h0
  rw [HC.out]
  have X := Lib.hid (h)
  have U := Lib.hid ((Chg.refl Nowhere w))
  clear h hi hx h0
  replace X := Lib.hid (X.out.up ((Chg.refl Nowhere w).alloc (.cells #[.int .i64 k, .int .i64 d, .int .i64 fb, .int .i64 fa, .int .i64 tb, .int .i64 ta, .int .i64 car, .int .i64 rk] 44)))
  replace U := Lib.hid (Chg.trans U.out ((Chg.refl Nowhere w).alloc (.cells #[.int .i64 k, .int .i64 d, .int .i64 fb, .int .i64 fa, .int .i64 tb, .int .i64 ta, .int .i64 car, .int .i64 rk] 44)))
  obtain ⟨b0, b1, b2, b3, b4, b5, b6, b7⟩ := box8 w (.int .i64 k) (.int .i64 d) (.int .i64 fb) (.int .i64 fa) (.int .i64 tb) (.int .i64 ta) (.int .i64 car) (.int .i64 rk) 44
  have hbx13 : w.heap.size < (w.alloc (.cells #[.int .i64 k, .int .i64 d, .int .i64 fb, .int .i64 fa, .int .i64 tb, .int .i64 ta, .int .i64 car, .int .i64 rk] 44)).heap.size := by simp
  go_enter Tryz.func69, Tryz.ntmps69
  go_wp2_with fail
  refine (opCode_c _ X.out Hi.out _ HX.out HC.out).mono ?_
  rintro e w14 ⟨rfl, g1⟩
  have G1 := Lib.hid g1
  have hz14 := G1.out.size
  clear g1
  replace X := Lib.hid (X.out.up (tt G1.out))
  replace U := Lib.hid (Chg.trans U.out (tt G1.out))
  have hh := cc8 (tt G1.out) b0 b1 b2 b3 b4 b5 b6 b7
  clear b0 b1 b2 b3 b4 b5 b6 b7
  obtain ⟨b0, b1, b2, b3, b4, b5, b6, b7⟩ := hh
  clear G1
  go_wp2
  go_ret
  exact ⟨rfl, X.out.mach, U.out⟩
/-- an operation is carried out, or its code tells why not -/
def nextM (m : MachM) (x : OpM) : MachM := if codeM m x = 0 then execM m x else m
theorem Mach.more {w : World} {S : Nat → Prop} {K K' p : Nat} {m : MachM} (h : Mach w S K p m) (hk : K ≤ K') : Mach w S K' p m := by
  obtain ⟨F, B, C, L, D, fs, bs, h⟩ := h
  exact (h.more hk).mach
theorem execute_ok (w : World) {S : Nat → Prop} {K p : Nat} {m : MachM} {F B C L D : Value} {fs bs : List Value} (h : MachX w S K p m F B C L D fs bs) (hS : NewIn S w) (hi : MInv m) (x : OpM) (hx : okOp m.wd x) (hKK : K ≤ 900000) (h0 : codeM m x = 0) :
    Calls Tryz.prog 69 #[.pointer (some ⟨p, 0, none⟩), x.val] w fun e w' => e = .returned (.int .i64 0) ∧ Mach w' S (K + 4) p (execM m x) ∧ Chg S w w' := by
  have lift : ∀ e w', (e = Ending.returned (.int .i64 0) ∧ Mach w' S K p (execM m x) ∧ Chg S w w') → e = Ending.returned (.int .i64 0) ∧ Mach w' S (K + 4) p (execM m x) ∧ Chg S w w' := fun e w' ⟨a, b, c⟩ => ⟨a, b.more (by omega), c⟩
  have hv := valid_cases hx.1
  obtain ⟨k, d, fb, fa, tb, ta, car, rk⟩ := x
  dsimp only at hv
  rcases hv with ⟨hk, hd, hn, hc, rfl, rfl, rfl⟩ | ⟨rfl, hn, hn2, hb, rfl, rfl, rfl⟩ | ⟨rfl, hn, hn2, hb, hd, hc, rfl⟩ | ⟨rfl, hn, rfl, rfl, rfl, rfl, rfl⟩ | ⟨rfl, hr, rfl, rfl, rfl, rfl, rfl, rfl⟩ | ⟨rfl, hd, hc, rfl, rfl, rfl, rfl, rfl⟩ | ⟨rfl, hc, rfl, rfl, rfl, rfl, rfl, rfl⟩
  · obtain ⟨j, rfl⟩ : ∃ j : Nat, car = (j : Int) + 1 := ⟨(car - 1).toNat, by omega⟩
    rcases hk with rfl | rfl | rfl <;> rcases hd with rfl | rfl
    · exact (execute_knitR w h hS hi fb fa 0 0 0 j hx h0).mono lift
    · exact (execute_knitL w h hS hi fb fa 0 0 0 j hx h0).mono lift
    · exact (execute_tuckR w h hS hi fb fa 0 0 0 j hx h0).mono lift
    · exact (execute_tuckL w h hS hi fb fa 0 0 0 j hx h0).mono lift
    · exact (execute_missR w h hS hi fb fa 0 0 0 j hx h0).mono lift
    · exact (execute_missL w h hS hi fb fa 0 0 0 j hx h0).mono lift
  · rcases hn.1 with rfl | rfl <;> rcases hn2.1 with rfl | rfl
    · exact absurd rfl hb
    · exact (execute_xfer12 w h hS hi 0 fa 0 ta 0 0 hx h0).mono lift
    · exact (execute_xfer21 w h hS hi 0 fa 0 ta 0 0 hx h0).mono lift
    · exact absurd rfl hb
  · obtain ⟨j, rfl⟩ : ∃ j : Nat, car = (j : Int) + 1 := ⟨(car - 1).toNat, by omega⟩
    rcases hn.1 with rfl | rfl <;> rcases hn2.1 with rfl | rfl <;> rcases hd with rfl | rfl
    · exact absurd rfl hb
    · exact absurd rfl hb
    · exact (execute_split12R w h hS hi 0 fa 0 ta 0 j hx h0).mono lift
    · exact (execute_split12L w h hS hi 0 fa 0 ta 0 j hx h0).mono lift
    · exact (execute_split21R w h hS hi 0 fa 0 ta 0 j hx h0).mono lift
    · exact (execute_split21L w h hS hi 0 fa 0 ta 0 j hx h0).mono lift
    · exact absurd rfl hb
    · exact absurd rfl hb
  · exact execute_drop w h hS hi fb fa 0 0 0 0 hx h0 hKK
  · exact (execute_rack w h hS hi 0 0 0 0 rk 0 hx h0).mono lift
  · obtain ⟨j, rfl⟩ : ∃ j : Nat, car = (j : Int) + 1 := ⟨(car - 1).toNat, by omega⟩
    rcases hd with rfl | rfl
    · exact (execute_inR w h hS hi 0 0 0 0 0 j hx h0).mono lift
    · exact (execute_inL w h hS hi 0 0 0 0 0 j hx h0).mono lift
  · obtain ⟨j, rfl⟩ : ∃ j : Nat, car = (j : Int) + 1 := ⟨(car - 1).toNat, by omega⟩
    exact (execute_out w h hS hi 0 0 0 0 0 j hx h0).mono lift
theorem execute_any (w : World) {S : Nat → Prop} {K p : Nat} {m : MachM} (h : Mach w S K p m) (hS : NewIn S w) (hi : MInv m) (x : OpM) (hx : okOp m.wd x) (hKK : K ≤ 900000) :
    Calls Tryz.prog 69 #[.pointer (some ⟨p, 0, none⟩), x.val] w fun e w' => e = .returned (.int .i64 (codeM m x)) ∧ Mach w' S (K + 4) p (nextM m x) ∧ Chg S w w' := by
  obtain ⟨F, B, C, L, D, fs, bs, h⟩ := h
  unfold nextM
  by_cases h0 : codeM m x = 0
  · rw [if_pos h0, h0]
    exact execute_ok w h hS hi x hx hKK h0
  · rw [if_neg h0]
    obtain ⟨k, d, fb, fa, tb, ta, car, rk⟩ := x
    exact (execute_bad w h hi k d fb fa tb ta car rk hx h0).mono fun e w' ⟨a, b, c⟩ => ⟨a, b.more (by omega), Chg.of_up c⟩
theorem MInv.next {m : MachM} (h : MInv m) {x : OpM} (hx : okOp m.wd x) : MInv (nextM m x) := by
  unfold nextM
  split
  · rename_i h0; exact h.exec hx h0
  · exact h
end Go.Proofs.YtiiodfcbpmkodaaGreat
