/- RowOfOp on both sides. No condition. -/
import Derived.Test.YtnjfhpgmogopnaaGreatPG11
set_option linter.unusedSimpArgs false
set_option linter.unusedVariables false
set_option maxRecDepth 100000
set_option maxHeartbeats 1000000
namespace Go.Proofs.YtnjfhpgmogopnaaGreat
open Go.ChangeShapes Go.WideShapes Go.ChangeAt Go.RowKit
def rowF : List (List OpM) → Int → Int → Int × Int
  | [], _, _ => (0, 2)
  | p :: ps, k, i => if k < p.length then (i, 0) else rowF ps (k - p.length) (i + 1)
theorem rowF_hit {P : List (List OpM)} {j : Nat} {z : Int} (hj : j < P.length) (h : z < P[j].length) (i : Int) : rowF (P.drop j) z i = (i, 0) := by
  rw [List.drop_eq_getElem_cons hj]; unfold rowF; rw [if_pos h]
theorem rowF_miss {P : List (List OpM)} {j : Nat} {z : Int} (hj : j < P.length) (h : ¬ z < P[j].length) (i : Int) : rowF (P.drop j) z i = rowF (P.drop (j + 1)) (z - P[j].length) (i + 1) := by
  rw [List.drop_eq_getElem_cons hj]; conv => lhs; unfold rowF
  rw [if_neg h]
theorem rowF_end (P : List (List OpM)) (z i : Int) : rowF (P.drop P.length) z i = (0, 2) := by rw [List.drop_length]; rfl
def opRow (c : ChartM) (k : Int) : Int × Int := if rowsC c = 0 then (if k < 0 then (0, 2) else rowF (partsM c) k 0) else (0, rowsC c)
theorem RowOfOp_any (w : World) (S : Nat → Prop) (v : Value) (c : ChartM) (h : ChartV w S v c) (x : Int) (hx : I64 x) :
    Calls Tryz.prog 17 #[v, .int .i64 x] w fun e w' => e = .returned (.tuple #[.int .i64 (opRow c x).1, .int .i64 (opRow c x).2]) ∧ Up w w' := by
  obtain ⟨A, k, rfl, -⟩ := h.shape
  have U0 := Lib.hid ((Chg.refl Nowhere w).alloc (.cells #[.int .i64 c.n, .slice A c.rs.length k] 31))
  have H := Lib.hid (h.up U0.out)
  have HB0 := Lib.hid h.box
  have B0 := Lib.hid (show (w.alloc (.cells #[.int .i64 c.n, .slice A c.rs.length k] 31)).cell? ⟨w.heap.size, 0, none⟩ = some (.int .i64 c.n) ∧ (w.alloc (.cells #[.int .i64 c.n, .slice A c.rs.length k] 31)).cell? ⟨w.heap.size, 1, none⟩ = some (.slice A c.rs.length k) from ⟨cell_new _ _ _ _, cell_new _ _ _ _⟩)
  obtain ⟨q0, q1⟩ := B0.out
  clear h
  go_enter Tryz.func17, Tryz.ntmps17
  go_wp2_with fail
  with_reducible refine (CompileRows_any _ _ _ c H.out).mono ?_
  rintro e w2 ⟨v1, rfl, k1, g1⟩
  have G1 := Lib.hid (Chg.trans U0.out g1)
  clear q0 q1 g1
  by_cases hc : rowsC c = 0
  · have hro : rowsO c = partsM c := by unfold rowsO; rw [if_pos hc]
    rw [hro] at k1
    obtain ⟨P, hP⟩ : ∃ P, P = partsM c := ⟨_, rfl⟩
    rw [← hP] at k1
    have hor : opRow c x = if x < 0 then (0, 2) else rowF P x 0 := by unfold opRow; rw [if_pos hc, hP]
    obtain ⟨A1, c1, rfl, hl1, hc1, -⟩ := k1.shape
    have K1 := Lib.hid k1
    have HC0 := Lib.hid hc
    have t1 : (rowsC c != 0) = false := by simpa using hc
    rw [HC0.out] at t1 ⊢
    clear k1 hc hro hP
    by_cases hn : x < 0
    · rw [if_pos hn] at hor
      have HOR := Lib.hid hor
      have t2 : decide (x < 0) = true := decide_eq_true hn
      clear hor hn hx
      go_wp2
      go_ret2
      rw [HOR.out]
      exact ⟨rfl, G1.out⟩
    · rw [if_neg hn] at hor
      have HOR := Lib.hid hor
      have t2 : decide (x < 0) = false := decide_eq_false hn
      have hx2 : x ≤ 9223372036854775807 := hx.2
      have hx1 : 0 ≤ x := by omega
      clear hor hn hx
      go_wp2
      go_loopw [1, 22] (fun kk i wr => ∃ (j : Nat) (z : Int), j ≤ P.length ∧ i = .int .i64 j ∧ kk = .int .i64 z ∧ 0 ≤ z ∧ z ≤ 9223372036854775807 ∧ Hid (rowF P x 0 = rowF (P.drop j) z j) ∧ w2 = wr) (fun _ i _ => P.length - (intOf i).toNat)
      case atStart => exact ⟨0, x, by omega, rfl, rfl, hx1, hx2, Lib.hid rfl, by first | rfl | trivial⟩
      case round =>
        obtain ⟨j, z, hj, rfl, rfl, hz1, hz2, hrf, rfl⟩ := hrel
        by_cases hlt : j < P.length
        · obtain ⟨b9, o9, c9, A9, ci, he, -, -, f9, -, -, -⟩ := K1.out.at_ hlt
          obtain ⟨rfl, rfl⟩ : A1 = some ⟨b9, o9, none⟩ ∧ c1 = c9 := by simpa using he
          obtain ⟨n, hn⟩ : ∃ n : Nat, n = P[j].length := ⟨_, rfl⟩
          have HN := Lib.hid hn
          rw [← hn] at f9
          clear he hn
          by_cases hk : z < (n : Int)
          · have HH := Lib.hid (HOR.out.trans (hrf.out.trans (rowF_hit hlt (by rw [← HN.out]; exact hk) j)))
            have t3 : decide (z < (n : Int)) = true := decide_eq_true hk
            clear hk
            go_wp2
            go_ret2
            rw [HH.out]
            exact ⟨rfl, G1.out⟩
          · have HM := Lib.hid (hrf.out.trans (rowF_miss hlt (by rw [← HN.out]; exact hk) j))
            have t3 : decide (z < (n : Int)) = false := decide_eq_false hk
            go_wp2
            go_roundw
            case rel => exact ⟨j + 1, z - n, by omega, by go_num, rfl, by omega, by omega, Lib.hid (by rw [HM.out, ← HN.out]; rfl), by first | rfl | trivial⟩
            case measure => first | (simp [intOf]; done) | (simp [intOf]; omega)
        · obtain rfl : j = P.length := by omega
          have HH := Lib.hid (HOR.out.trans (hrf.out.trans (rowF_end P z _)))
          go_wp2
          go_ret2
          rw [HH.out]
          exact ⟨rfl, G1.out⟩
  · have HOR : Hid (opRow c x = (0, rowsC c)) := Lib.hid (by unfold opRow; rw [if_neg hc])
    have t1 : (rowsC c != 0) = true := by simpa using hc
    obtain ⟨A1, c1, rfl, -⟩ := k1.shape
    clear k1 hc
    go_wp2
    go_ret2
    rw [HOR.out]
    exact ⟨rfl, G1.out⟩
theorem sRowOfOp_any (w : World) (S : Nat → Prop) (v : Value) (c : ChartM) (h : ChartV w S v c) (x : Int) (hx : I64 x) :
    Calls Tryz.prog 16 #[v, .int .i64 x] w fun e w' => e = .returned (.tuple #[.int .i64 (opRow c x).1, .int .i64 (opRow c x).2]) ∧ Up w w' := by
  obtain ⟨A, k, rfl, -⟩ := h.shape
  have U0 := Lib.hid ((Chg.refl Nowhere w).alloc (.cells #[.int .i64 c.n, .slice A c.rs.length k] 31))
  have H := Lib.hid (h.up U0.out)
  have HB0 := Lib.hid h.box
  have B0 := Lib.hid (show (w.alloc (.cells #[.int .i64 c.n, .slice A c.rs.length k] 31)).cell? ⟨w.heap.size, 0, none⟩ = some (.int .i64 c.n) ∧ (w.alloc (.cells #[.int .i64 c.n, .slice A c.rs.length k] 31)).cell? ⟨w.heap.size, 1, none⟩ = some (.slice A c.rs.length k) from ⟨cell_new _ _ _ _, cell_new _ _ _ _⟩)
  obtain ⟨q0, q1⟩ := B0.out
  clear h
  go_enter Tryz.func16, Tryz.ntmps16
  go_wp2_with fail
  with_reducible refine (l24Rows_any _ _ _ _ c HB0.out).mono ?_
  rintro e w2 ⟨v1, rfl, k1, g1⟩
  have G1 := Lib.hid (Chg.trans U0.out g1)
  clear q0 q1 g1
  by_cases hc : rowsC c = 0
  · have hro : rowsO c = partsM c := by unfold rowsO; rw [if_pos hc]
    have hb : chartB c = true := by
      cases hb : chartB c with
      | true => rfl
      | false => have := (rows_no hb).1; omega
    have hpl := partsM_len (chartOk_of hb)
    have h8 := (chart_size hb).2
    rw [hro] at k1
    obtain ⟨P, hP⟩ : ∃ P, P = partsM c := ⟨_, rfl⟩
    rw [← hP] at k1 hpl
    have hor : opRow c x = if x < 0 then (0, 2) else rowF P x 0 := by unfold opRow; rw [if_pos hc, hP]
    obtain ⟨A1, c1, rfl, hl1, hc1, -⟩ := k1.shape
    have K1 := Lib.hid k1
    have HC0 := Lib.hid hc
    have t1 : (rowsC c != 0) = false := by simpa using hc
    have hp10 : P.length ≤ 10 := by omega
    have HPL := Lib.hid hpl.2
    rw [HC0.out] at t1 ⊢
    clear k1 hc hro hP hb hpl h8
    by_cases hn : x < 0
    · rw [if_pos hn] at hor
      have HOR := Lib.hid hor
      have hx1 := hx.1
      clear hor hx
      go_wp2
      go_loopw [1, 8] (fun kk i wr => ∃ (j : Nat) (z : Int), j ≤ P.length ∧ i = .int .i64 j ∧ kk = .int .i64 z ∧ -9223372036854775808 ≤ z ∧ z ≤ 9223372036854775807 ∧ (z < 0 ∨ 9223372036854775807 - 6000 * (j : Int) ≤ z) ∧ w2 = wr) (fun _ i _ => P.length - (intOf i).toNat)
      case atStart => exact ⟨0, x, by omega, rfl, rfl, hx1, by omega, .inl hn, by first | rfl | trivial⟩
      case round =>
        obtain ⟨j, z, hj, rfl, rfl, hz1, hz2, hz3, rfl⟩ := hrel
        by_cases hlt : j < P.length
        · obtain ⟨b9, o9, c9, A9, ci, he, -, -, f9, -, -, -⟩ := K1.out.at_ hlt
          obtain ⟨rfl, rfl⟩ : A1 = some ⟨b9, o9, none⟩ ∧ c1 = c9 := by simpa using he
          have hn9 := HPL.out _ (List.getElem_mem hlt)
          obtain ⟨n, hn2⟩ : ∃ n : Nat, n = P[j].length := ⟨_, rfl⟩
          rw [← hn2] at f9 hn9
          clear he hn2
          by_cases hzn : z < 0
          · have t0 : decide (0 ≤ z) = false := decide_eq_false (by omega)
            have hw : ∀ y : Int, y = wrap64 (z - n) → (-9223372036854775808 ≤ y ∧ y ≤ 9223372036854775807) ∧ (y < 0 ∨ 9223372036854775807 - 6000 * ((j + 1 : Nat) : Int) ≤ y) := fun y hy => by subst hy; unfold wrap64; omega
            have HW := Lib.hid hw
            clear hw hz3
            go_wp2
            go_roundw
            case rel => exact ⟨j + 1, wrap64 (z - n), by omega, by go_num, rfl, (HW.out _ rfl).1.1, (HW.out _ rfl).1.2, (HW.out _ rfl).2, by first | rfl | trivial⟩
            case measure => first | (simp [intOf]; done) | (simp [intOf]; omega)
          · have t0 : decide (0 ≤ z) = true := decide_eq_true (by omega)
            have t3 : decide (z < (n : Int)) = false := decide_eq_false (by omega)
            go_wp2
            go_roundw
            case rel => exact ⟨j + 1, z - n, by omega, by go_num, rfl, by omega, by omega, .inr (by omega), by first | rfl | trivial⟩
            case measure => first | (simp [intOf]; done) | (simp [intOf]; omega)
        · obtain rfl : j = P.length := by omega
          go_wp2
          go_ret2
          rw [HOR.out]
          exact ⟨rfl, G1.out⟩
    · rw [if_neg hn] at hor
      have HOR := Lib.hid hor
      have hx2 : x ≤ 9223372036854775807 := hx.2
      have hx1 : 0 ≤ x := by omega
      clear hor hn hx
      go_wp2
      go_loopw [1, 8] (fun kk i wr => ∃ (j : Nat) (z : Int), j ≤ P.length ∧ i = .int .i64 j ∧ kk = .int .i64 z ∧ 0 ≤ z ∧ z ≤ 9223372036854775807 ∧ Hid (rowF P x 0 = rowF (P.drop j) z j) ∧ w2 = wr) (fun _ i _ => P.length - (intOf i).toNat)
      case atStart => exact ⟨0, x, by omega, rfl, rfl, hx1, hx2, Lib.hid rfl, by first | rfl | trivial⟩
      case round =>
        obtain ⟨j, z, hj, rfl, rfl, hz1, hz2, hrf, rfl⟩ := hrel
        by_cases hlt : j < P.length
        · obtain ⟨b9, o9, c9, A9, ci, he, -, -, f9, -, -, -⟩ := K1.out.at_ hlt
          obtain ⟨rfl, rfl⟩ : A1 = some ⟨b9, o9, none⟩ ∧ c1 = c9 := by simpa using he
          obtain ⟨n, hn⟩ : ∃ n : Nat, n = P[j].length := ⟨_, rfl⟩
          have HN := Lib.hid hn
          rw [← hn] at f9
          have t0 : decide (0 ≤ z) = true := decide_eq_true hz1
          clear he hn
          by_cases hk : z < (n : Int)
          · have HH := Lib.hid (HOR.out.trans (hrf.out.trans (rowF_hit hlt (by rw [← HN.out]; exact hk) j)))
            have t3 : decide (z < (n : Int)) = true := decide_eq_true hk
            clear hk
            go_wp2
            go_ret2
            rw [HH.out]
            exact ⟨rfl, G1.out⟩
          · have HM := Lib.hid (hrf.out.trans (rowF_miss hlt (by rw [← HN.out]; exact hk) j))
            have t3 : decide (z < (n : Int)) = false := decide_eq_false hk
            go_wp2
            go_roundw
            case rel => exact ⟨j + 1, z - n, by omega, by go_num, rfl, by omega, by omega, Lib.hid (by rw [HM.out, ← HN.out]; rfl), by first | rfl | trivial⟩
            case measure => first | (simp [intOf]; done) | (simp [intOf]; omega)
        · obtain rfl : j = P.length := by omega
          have HH := Lib.hid (HOR.out.trans (hrf.out.trans (rowF_end P z _)))
          go_wp2
          go_ret2
          rw [HH.out]
          exact ⟨rfl, G1.out⟩
  · have HOR : Hid (opRow c x = (0, rowsC c)) := Lib.hid (by unfold opRow; rw [if_neg hc])
    have t1 : (rowsC c != 0) = true := by simpa using hc
    obtain ⟨A1, c1, rfl, -⟩ := k1.shape
    clear k1 hc
    go_wp2
    go_ret2
    rw [HOR.out]
    exact ⟨rfl, G1.out⟩
end Go.Proofs.YtnjfhpgmogopnaaGreat
