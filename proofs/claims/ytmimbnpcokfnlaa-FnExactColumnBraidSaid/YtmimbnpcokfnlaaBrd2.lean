/- CrossOps on both sides. No condition but room. -/
import Derived.Test.YtmimbnpcokfnlaaBrd
namespace Go.Proofs.Ytmimbnpcokfnlaa
open Go.ChangeShapes Go.WideShapes Go.ChangeAt Go.RowKit
def crossCode (first : Int) (b : BraidM) : Int := if braidB b.n b.ws = false ∨ 8 < b.n then 1 else if (first < 1 ∨ 23 < first) ∨ 23 < first + 2 * (b.n - 1) + 1 then 2 else 0
def crossOut (first : Int) (b : BraidM) : List OpM := if crossCode first b = 0 then crossL first b.ws else []
theorem crossCode_1 {first : Int} {b : BraidM} (h : braidB b.n b.ws = false ∨ 8 < b.n) : crossCode first b = 1 := if_pos h
theorem crossCode_2 {first : Int} {b : BraidM} (h : braidB b.n b.ws = true) (hn : b.n ≤ 8) (h2 : (first < 1 ∨ 23 < first) ∨ 23 < first + 2 * (b.n - 1) + 1) : crossCode first b = 2 := by
  unfold crossCode
  rw [if_neg (by rintro (hh | hh); (rw [h] at hh; cases hh); omega), if_pos h2]
theorem crossCode_0 {first : Int} {b : BraidM} (h : braidB b.n b.ws = true) (hn : b.n ≤ 8) (h1 : 1 ≤ first ∧ first ≤ 23) (h2 : first + 2 * (b.n - 1) + 1 ≤ 23) : crossCode first b = 0 := by
  unfold crossCode
  rw [if_neg (by rintro (hh | hh); (rw [h] at hh; cases hh); omega), if_neg (by omega)]
theorem crossOut_no {first c : Int} {b : BraidM} (h : crossCode first b = c) (hc : c ≠ 0) : crossOut first b = [] := if_neg (by rw [h]; exact hc)
theorem crossOut_ok {first : Int} {b : BraidM} (h : crossCode first b = 0) : crossOut first b = crossL first b.ws := if_pos h
theorem crossOut_bd (first : Int) (b : BraidM) : cntOps (crossOut first b) ≤ 1000000 := by
  unfold crossOut cntOps
  split
  · rename_i h
    have hb : braidB b.n b.ws = true := by
      cases hh : braidB b.n b.ws with
      | true => rfl
      | false => rw [crossCode_1 (.inl hh)] at h; omega
    have := (braidB_iff.1 hb).len
    rw [crossL_len]
    omega
  · simp
theorem braid_let {b : BraidM} (h : braidB b.n b.ws = true) {hi : Int} (hn : b.n ≤ hi + 1) : letOk hi b.ws := fun k hk => by
  have := (braidB_iff.1 h).let_ k hk
  unfold absI
  split <;> omega
end Go.Proofs.Ytmimbnpcokfnlaa
