/- What brings a carrier to the side of a needle. Conditions: a place, a needle, a direction, a carrier. -/
import Derived.Test.YtmimbnpcokfnlaaNeedle
namespace Go.Proofs.Ytmimbnpcokfnlaa
open Go.ChangeShapes Go.WideShapes Go.ChangeAt Go.RowKit
def carryM (at_ place dir car : Int) : List OpM := if (dir = 1 ∧ place < at_) ∨ (dir = -1 ∧ at_ < place + 1) then [⟨3, -dir, 1, place, 0, 0, car, 0⟩] else []
set_option maxHeartbeats 4000000 in
theorem carryTo_any (w : World) (at_ place dir car : Int) (ha : -100 ≤ at_ ∧ at_ ≤ 100) (hp : 0 ≤ place ∧ place ≤ 100) (hd : dir = 1 ∨ dir = -1) (hc : 1 ≤ car ∧ car ≤ 4) :
    Calls Try.prog 192 #[.int .i64 at_, .int .i64 place, .int .i64 dir, .int .i64 car] w fun e w' => ∃ v, e = .returned v ∧ Ops w' (New w.heap.size w'.heap.size) v (carryM at_ place dir car) ∧ Up w w' := by
  have hok : ∀ x ∈ carryM at_ place dir car, x.ok := by
    intro x hx
    unfold carryM at hx
    split at hx
    · simp only [List.mem_singleton] at hx
      subst hx
      unfold OpM.ok I64
      simp only []
      omega
    · simp at hx
  obtain ⟨ha0, ha1⟩ := ha
  obtain ⟨hp0, hp1⟩ := hp
  obtain ⟨hc0, hc1⟩ := hc
  have hs : (dir = 1 ∧ place < at_) ∨ (dir = 1 ∧ at_ ≤ place) ∨ (dir = -1 ∧ at_ < place + 1) ∨ (dir = -1 ∧ place + 1 ≤ at_) := by omega
  clear hd
  rcases hs with ⟨rfl, h⟩ | ⟨rfl, h⟩ | ⟨rfl, h⟩ | ⟨rfl, h⟩
  · rw [show carryM at_ place 1 car = [⟨3, -1, 1, place, 0, 0, car, 0⟩] from if_pos (by omega)] at hok ⊢
    have HK := Lib.hid hok
    clear hok
    go_enter Try.func192, Try.ntmps192
    go_wp2_with fail
    refine (frontNeedle_any _ _).mono ?_
    rintro e w1 ⟨rfl, g1⟩
    have hsz := g1.size
    have G1 := Lib.hid g1
    clear g1
    go_wp2
    go_ret
    exact ⟨_, rfl, ⟨Raw.of_block (heap_new_at (by simp)) rfl ⟨by first | omega | (simp; done) | (simp; omega), by first | omega | (simp; done) | (simp; omega)⟩ rfl (by simp) (by omega), HK.out⟩, Chg.alloc G1.out _⟩
  · rw [show carryM at_ place 1 car = [] from if_neg (by omega)]
    clear hok
    go_enter Try.func192, Try.ntmps192
    go_wp2
    go_ret
    exact ⟨_, rfl, Ops.nil _ _ _ _ (by omega), by repeat (first | exact Chg.refl _ _ | refine Chg.alloc ?_ _)⟩
  · rw [show carryM at_ place (-1) car = [⟨3, 1, 1, place, 0, 0, car, 0⟩] from if_pos (by omega)] at hok ⊢
    have HK := Lib.hid hok
    clear hok
    go_enter Try.func192, Try.ntmps192
    go_wp2_with fail
    refine (frontNeedle_any _ _).mono ?_
    rintro e w1 ⟨rfl, g1⟩
    have hsz := g1.size
    have G1 := Lib.hid g1
    clear g1
    go_wp2
    go_ret
    exact ⟨_, rfl, ⟨Raw.of_block (heap_new_at (by simp)) rfl ⟨by first | omega | (simp; done) | (simp; omega), by first | omega | (simp; done) | (simp; omega)⟩ rfl (by simp) (by omega), HK.out⟩, Chg.alloc G1.out _⟩
  · rw [show carryM at_ place (-1) car = [] from if_neg (by omega)]
    clear hok
    go_enter Try.func192, Try.ntmps192
    go_wp2
    go_ret
    exact ⟨_, rfl, Ops.nil _ _ _ _ (by omega), by repeat (first | exact Chg.refl _ _ | refine Chg.alloc ?_ _)⟩
set_option maxHeartbeats 4000000 in
theorem l23Carry_any (w : World) (at_ place dir car : Int) (ha : -100 ≤ at_ ∧ at_ ≤ 100) (hp : 0 ≤ place ∧ place ≤ 100) (hd : dir = 1 ∨ dir = -1) (hc : 1 ≤ car ∧ car ≤ 4) :
    Calls Try.prog 182 #[.int .i64 at_, .int .i64 place, .int .i64 dir, .int .i64 car] w fun e w' => ∃ v, e = .returned v ∧ Ops w' (New w.heap.size w'.heap.size) v (carryM at_ place dir car) ∧ Up w w' := by
  have hok : ∀ x ∈ carryM at_ place dir car, x.ok := by
    intro x hx
    unfold carryM at hx
    split at hx
    · simp only [List.mem_singleton] at hx
      subst hx
      unfold OpM.ok I64
      simp only []
      omega
    · simp at hx
  obtain ⟨ha0, ha1⟩ := ha
  obtain ⟨hp0, hp1⟩ := hp
  obtain ⟨hc0, hc1⟩ := hc
  have hs : (dir = 1 ∧ place < at_) ∨ (dir = 1 ∧ at_ ≤ place) ∨ (dir = -1 ∧ at_ < place + 1) ∨ (dir = -1 ∧ place + 1 ≤ at_) := by omega
  clear hd
  rcases hs with ⟨rfl, h⟩ | ⟨rfl, h⟩ | ⟨rfl, h⟩ | ⟨rfl, h⟩
  · rw [show carryM at_ place 1 car = [⟨3, -1, 1, place, 0, 0, car, 0⟩] from if_pos (by omega)] at hok ⊢
    have HK := Lib.hid hok
    clear hok
    go_enter Try.func182, Try.ntmps182
    go_wp2_with fail
    refine (l23Front_any _ _).mono ?_
    rintro e w1 ⟨rfl, g1⟩
    have hsz := g1.size
    have G1 := Lib.hid g1
    clear g1
    go_wp2_with fail
    refine (l23Yarn_any _ _ _ _ _ _).mono ?_
    rintro e w2 ⟨rfl, g2⟩
    have hsz2 := g2.size
    have G2 := Lib.hid g2
    clear g2
    go_wp2
    go_ret
    exact ⟨_, rfl, ⟨Raw.of_block (heap_new_at (by simp)) rfl ⟨by first | omega | (simp; done) | (simp; omega), by first | omega | (simp; done) | (simp; omega)⟩ rfl (by simp) (by omega), HK.out⟩, Chg.alloc (Chg.trans G1.out G2.out) _⟩
  · rw [show carryM at_ place 1 car = [] from if_neg (by omega)]
    clear hok
    go_enter Try.func182, Try.ntmps182
    go_wp2
    go_ret
    exact ⟨_, rfl, Ops.nil _ _ _ _ (by omega), by repeat (first | exact Chg.refl _ _ | refine Chg.alloc ?_ _)⟩
  · rw [show carryM at_ place (-1) car = [⟨3, 1, 1, place, 0, 0, car, 0⟩] from if_pos (by omega)] at hok ⊢
    have HK := Lib.hid hok
    clear hok
    go_enter Try.func182, Try.ntmps182
    go_wp2_with fail
    refine (l23Front_any _ _).mono ?_
    rintro e w1 ⟨rfl, g1⟩
    have hsz := g1.size
    have G1 := Lib.hid g1
    clear g1
    go_wp2_with fail
    refine (l23Yarn_any _ _ _ _ _ _).mono ?_
    rintro e w2 ⟨rfl, g2⟩
    have hsz2 := g2.size
    have G2 := Lib.hid g2
    clear g2
    go_wp2
    go_ret
    exact ⟨_, rfl, ⟨Raw.of_block (heap_new_at (by simp)) rfl ⟨by first | omega | (simp; done) | (simp; omega), by first | omega | (simp; done) | (simp; omega)⟩ rfl (by simp) (by omega), HK.out⟩, Chg.alloc (Chg.trans G1.out G2.out) _⟩
  · rw [show carryM at_ place (-1) car = [] from if_neg (by omega)]
    clear hok
    go_enter Try.func182, Try.ntmps182
    go_wp2
    go_ret
    exact ⟨_, rfl, Ops.nil _ _ _ _ (by omega), by repeat (first | exact Chg.refl _ _ | refine Chg.alloc ?_ _)⟩
end Go.Proofs.Ytmimbnpcokfnlaa
