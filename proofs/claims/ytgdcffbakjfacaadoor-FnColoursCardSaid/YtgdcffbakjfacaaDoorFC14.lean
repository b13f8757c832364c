/- The text of a colour chart. No condition. Lists of numbers in a list under construction: each in blocks of the call's own. No condition. A colour chart read back from its text. No condition. What the law on colour charts checks: rows of the chart, one behind the other. No condition. The reference's sequence of choices behind the end of its bytes: sooner or later bit 40 is 0. Plain. No condition. -/
import Derived.Test.YtgdcffbakjfacaaDoorColV
import Derived.Test.YtgdcffbakjfacaaDoorColX
import Derived.Test.YtgdcffbakjfacaaDoorShelfD
import Derived.Test.YtgdcffbakjfacaaDoorFC12
import Derived.Test.YtgdcffbakjfacaaDoorFC5
import Derived.Laws.AppendOwnNone
import Derived.Test.YtgdcffbakjfacaaDoorFC1
section
set_option linter.unusedSimpArgs false
set_option linter.unusedVariables false
set_option maxRecDepth 100000
set_option maxHeartbeats 4000000
namespace Go.Proofs.YtgdcffbakjfacaaDoor
open Go.ChangeShapes Go.WideShapes Go.ChangeAt Go.RowKit
open SD
theorem dec_dig {x : Nat} (h : 1 ≤ x ∧ x ≤ 4) : (⟨(Lib.decDigits x).toArray⟩ : ByteArray) = ⟨#[digB (x : Int)]⟩ := by
  obtain ⟨h1, h2⟩ := h
  match x, h1, h2 with
  | 1, _, _ => simp [Lib.decDigits, digB]
  | 2, _, _ => simp [Lib.decDigits, digB]
  | 3, _, _ => simp [Lib.decDigits, digB]
  | 4, _, _ => simp [Lib.decDigits, digB]
theorem Decimal_any (w : World) (x : Nat) (h : 1 ≤ x ∧ x ≤ 4) : Calls Tryd.prog 15 #[.int .i64 (x : Int)] w fun e w' => e = .returned (.string ⟨#[digB (x : Int)]⟩) ∧ w' = w := by
  have HD := Lib.hid (dec_dig h)
  go_enter Tryd.func15, Tryd.ntmps15
  go_wp2_with fail
  refine (Tryd.strconv_FormatInt_10_small x (by omega) _).mono ?_
  rintro e _ ⟨rfl, rfl⟩
  go_wp2_with fail
  go_ret
  exact ⟨by rw [HD.out]; rfl, rfl⟩
theorem okCol_dig {c : ColM} (h : okCol c = true) : ∀ r ∈ c.rs, DigR r := by
  unfold okCol at h
  simp only [Bool.and_eq_true, List.all_eq_true] at h
  intro r hr x hx
  have h1 := h.2 r hr
  unfold okLine at h1
  simp only [Bool.and_eq_true, List.all_eq_true] at h1
  have h2 := h1.2 x hx
  unfold carB at h2
  simp only [decide_eq_true_eq] at h2
  omega
theorem txt_row {c : ColM} (h : okCol c = true) {t : Nat} (ht : t < c.rs.length) : c.rs[t].length ≤ 8 := by
  unfold okCol at h
  simp only [Bool.and_eq_true, inB, decide_eq_true_eq, List.all_eq_true] at h
  obtain ⟨⟨h1, h2⟩, h3⟩ := h
  have := h3 _ (List.getElem_mem ht)
  unfold okLine at this
  simp only [Bool.and_eq_true, decide_eq_true_eq] at this
  omega
theorem txt_size {c : ColM} (h : okCol c = true) (t : Nat) : (txtB (c.rs.take t)).length ≤ 72 := by
  have h1 := txtB_length (c.rs.take t) (L := 8) (fun r hr => by
    obtain ⟨i, hi, rfl⟩ := List.getElem_of_mem (List.mem_of_mem_take hr)
    exact txt_row h hi)
  have h2 : c.rs.length ≤ 8 := by
    unfold okCol at h
    simp only [Bool.and_eq_true, inB, decide_eq_true_eq] at h
    omega
  have h3 := List.length_take_le t c.rs
  have h4 : (c.rs.take t).length ≤ 8 := by rw [List.length_take]; omega
  omega
theorem txt_rows {c : ColM} (h : okCol c = true) : c.rs.length ≤ 8 := by
  unfold okCol at h
  simp only [Bool.and_eq_true, inB, decide_eq_true_eq] at h
  omega
theorem lineB_take {r : List Int} {j : Nat} (h : j < r.length) : lineB (r.take (j + 1)) = lineB (r.take j) ++ [digB r[j]] := by
  unfold lineB
  rw [List.take_succ_eq_append_getElem h, List.map_append]
  rfl
theorem ColoursText_any (w : World) (S : Nat → Prop) (v : Value) (c : ColM) (h : ColV w S S S v c) (hok : okCol c = true) :
    Calls Tryd.prog 7 #[v] w fun e w' => ∃ s : ByteArray, e = .returned (.string s) ∧ s.data.toList = txtB c.rs ∧ Up w w' := by
  have H := Lib.hid h
  obtain ⟨A, kk, rfl, h0, ⟨hlk, hkm⟩, -⟩ := h
  have H0 := Lib.hid h0
  have UB := Lib.hid (show Up w (w.alloc (.cells #[.int .i64 c.n, .slice A c.rs.length kk] 26)) from (Chg.refl Nowhere w).alloc _)
  have Q1 := Lib.hid (show (w.alloc (.cells #[.int .i64 c.n, .slice A c.rs.length kk] 26)).cell? ⟨w.heap.size, 1, none⟩ = some (.slice A c.rs.length kk) from cell_new _ _ _ _)
  clear h0
  go_enter Tryd.func7, Tryd.ntmps7
  go_wp2_with fail
  refine (ValidColours_any _ S S S _ c (H.out.up (by repeat (first | exact Chg.refl _ _ | apply Chg.drew | apply Chg.drewN | refine Chg.alloc ?_ _)))).mono ?_
  rintro e w1 ⟨rfl, g1⟩
  have G1 := Lib.hid (show Up w w1 from Chg.trans (by repeat (first | exact Chg.refl _ _ | apply Chg.drew | apply Chg.drewN | refine Chg.alloc ?_ _)) g1)
  have q1 := Chg.cell g1 Q1.out id
  clear g1
  go_wp2
  have HOK := Lib.hid hok
  have HB := Lib.hid (And.intro hlk hkm)
  have hcl := txt_rows hok
  clear q1 hlk hkm hok
  go_loopw [3, 5, 7, 14] (fun s _ _ i wr => ∃ (t : Nat) (q : ByteArray), t ≤ c.rs.length ∧ i = .int .i64 (t : Int) ∧ s = .string q ∧ Hid (q.data.toList = txtB (c.rs.take t)) ∧ Hid (Up w wr)) (fun _ _ _ i _ => c.rs.length - (intOf i).toNat)
  case atStart => exact ⟨0, _, by omega, rfl, rfl, Lib.hid rfl, G1⟩
  case round =>
    obtain ⟨t, q, ht, rfl, rfl, hq, hu⟩ := hrel
    by_cases htl : t < c.rs.length
    rotate_left
    · obtain rfl : t = c.rs.length := by omega
      have HE := Lib.hid (show q.data.toList = txtB c.rs by rw [hq.out, List.take_length])
      go_wp2
      go_ret
      exact ⟨_, rfl, HE.out, hu.out⟩
    obtain ⟨b, o, k1, vs, he, -, -, -, hE, hc⟩ := H0.out.at_ htl
    obtain ⟨rfl, rfl⟩ : A = some ⟨b, o, none⟩ ∧ kk = k1 := by simpa using he
    obtain ⟨A3, k3, rfl, hv, hk3, hk3m⟩ := hE
    have f0 := Chg.cell hu.out (hc 0 _ rfl).1 id
    simp only [Nat.mul_one, Nat.add_zero] at f0
    obtain ⟨row, hrow⟩ : ∃ row, row = c.rs[t] := ⟨_, rfl⟩
    have HROW := Lib.hid hrow
    rw [← hrow] at hv hk3 f0
    have HV := Lib.hid hv
    clear hc he hv hrow
    have htd : decide ((t : Int) < (c.rs.length : Int)) = true := decide_eq_true (by omega)
    go_wp2
    clear f0
    go_loopw [3, 7, 20] (fun s _ i wx => ∃ (j : Nat) (q2 : ByteArray), j ≤ row.length ∧ i = .int .i64 (j : Int) ∧ s = .string q2 ∧ Hid (q2.data.toList = txtB (c.rs.take t) ++ lineB (row.take j)) ∧ Hid (Up w wx)) (fun _ _ i _ => row.length - (intOf i).toNat)
    case atStart => exact ⟨0, q, by omega, rfl, rfl, Lib.hid (by rw [hq.out]; simp [lineB]), hu⟩
    case round =>
      obtain ⟨j, q2, hj, rfl, rfl, hq2, hu2⟩ := hrel
      have hsz : q2.size ≤ 100000 := by
        have h1 := txt_size HOK.out t
        have h2 : q2.size = q2.data.toList.length := rfl
        rw [h2, hq2.out, List.length_append, lineB_length]
        have h3 := List.length_take_le j row
        have h4 := txt_row HOK.out htl
        rw [← HROW.out] at h4
        omega
      have hsn : ¬ 9223372036854775807 < q2.size + 1 := by omega
      by_cases hjl : j < row.length
      rotate_left
      · obtain rfl : j = row.length := by omega
        have htj : decide ((row.length : Int) < (row.length : Int)) = false := decide_eq_false (by omega)
        have HE := Lib.hid (show q2.data.toList ++ [10] = txtB (c.rs.take (t + 1)) by rw [hq2.out, List.take_length, List.take_succ_eq_append_getElem htl, ← HROW.out, txtB_append]; simp)
        go_wp2
        go_roundw
        case rel => exact ⟨t + 1, _, by omega, by go_num, rfl, Lib.hid (by rw [← HE.out]; simp), hu2⟩
        case measure => first | (simp [intOf]; done) | (simp [intOf]; omega)
      obtain ⟨b2, o2, rfl, -, hc2⟩ := ints_ixf (HV.out.up hu2.out) hjl
      have p0 := (hc2 j hjl).1
      rw [ix_eq hjl] at p0
      clear hc2
      have hdg := okCol_dig HOK.out row (by rw [HROW.out]; exact List.getElem_mem htl) row[j] (List.getElem_mem hjl)
      obtain ⟨x, hx⟩ : ∃ x : Nat, (x : Int) = row[j] := ⟨row[j].toNat, by omega⟩
      rw [← hx] at p0 hdg
      have htj : decide ((j : Int) < (row.length : Int)) = true := decide_eq_true (by omega)
      have HE := Lib.hid (show q2.data.toList ++ [digB (x : Int)] = txtB (c.rs.take t) ++ lineB (row.take (j + 1)) by rw [hq2.out, lineB_take hjl, hx, List.append_assoc])
      clear hx
      go_wp2_with (go_at_call 15; refine (Decimal_any _ x (by omega)).mono ?_; rintro e _ ⟨rfl, rfl⟩)
      go_roundw
      case rel => exact ⟨j + 1, _, by omega, by go_num, rfl, Lib.hid (by rw [← HE.out]; simp), hu2⟩
      case measure => first | (simp [intOf]; done) | (simp [intOf]; omega)
end Go.Proofs.YtgdcffbakjfacaaDoor
end
section
set_option linter.unusedSimpArgs false
set_option linter.unusedVariables false
set_option maxRecDepth 100000
namespace Go.Proofs.YtgdcffbakjfacaaDoor
open Go.ChangeShapes Go.WideShapes Go.ChangeAt Go.RowKit
def LRow (w : World) (base : Nat) (v : Value) (rs : List (List Int)) : Prop :=
  ∃ cs, w.ownsRow base 31 1 v rs.length cs ∧ ∀ i (h : i < rs.length), IntsE (fun b => base ≤ b ∧ b < w.heap.size ∧ v.ownBlock ≠ some b) w ((cs.drop (i * 1)).take 1) rs[i]
theorem LRow.nil (w : World) (base : Nat) : LRow w base (.slice none 0 0) [] := ⟨[], World.ownsRow_nil _ _ _ _, fun i h => by simp at h⟩
theorem LRow.kept {S : Nat → Prop} {w w' : World} {base : Nat} {v : Value} {rs : List (List Int)} (h : LRow w base v rs) (g : Chg S w w') (hS : ∀ b, base ≤ b → b < w.heap.size → ¬ S b) : LRow w' base v rs := by
  obtain ⟨cs, h1, h2⟩ := h
  exact ⟨cs, ownsRow_kept h1 g (fun b hb => hS b (h1.lt b hb).1 (h1.lt b hb).2), fun i hi => ((h2 i hi).keep g (fun b hb hq => hS b hq.1 hb)).mono (fun b _ hq => ⟨hq.1, Nat.lt_of_lt_of_le hq.2.1 g.size, hq.2.2⟩)⟩
theorem LRow.up {w w' : World} {base : Nat} {v : Value} {rs : List (List Int)} (h : LRow w base v rs) (g : Up w w') : LRow w' base v rs := h.kept g (fun _ _ _ h => h)
theorem LRow.val {w : World} {base : Nat} {v : Value} {rs : List (List Int)} (h : LRow w base v rs) : ∃ A c, v = .slice A rs.length c ∧ rs.length ≤ c ∧ c ≤ 9223372036854775807 ∧ (A = none → c = 0) := by
  obtain ⟨cs, h1, -⟩ := h
  obtain ⟨-, A, c, h3, h4, h5, -, h6⟩ := Raw.of_own h1
  exact ⟨A, c, h3, h4, h5, h6⟩
theorem LRow.lt {w : World} {base : Nat} {v : Value} {rs : List (List Int)} (h : LRow w base v rs) {g : Nat} (hg : v.ownBlock = some g) : base ≤ g ∧ g < w.heap.size := let ⟨_, h1, _⟩ := h; h1.lt g hg
theorem LRow.rd {w : World} {base : Nat} {v : Value} {rs : List (List Int)} (h : LRow w base v rs) (M : Nat → Prop) : IntSSV w M (New base w.heap.size) (New base w.heap.size) v rs := by
  obtain ⟨cs, h1, h2⟩ := h
  exact ⟨cs, Raw.of_own h1, fun i hi => (h2 i hi).mono (fun b hb hq => ⟨hq.1, hb⟩)⟩
theorem infoISl : (Tryd.prog.info? 31).map (fun i => (i.zero, i.size, i.bytes)) = some (some (.slice none 0 0), 1, 24) := by kernel_rfl
/-- one list more is appended, out of a literal of one element -/
theorem wp_append_lrow {w : World} {ops : Array Oper} {rest : List Oper} {o : Oper} {a : Act} {R : Exit → Act → World → Prop} (hgd : o.guard = none) (s x : Operand)
    (ho : o.op = .call { callee := .builtin .append, args := #[s, x], argTypes := #[24, 24] })
    (base : Nat) (v : Value) (rs : List (List Int)) (hs : a.eval s = v) (hown : LRow w base v rs)
    (g : Nat) (r : List Int) (A : Option Addr) (c : Nat) (hx : a.eval x = .slice (some ⟨g, 0, none⟩) 1 1) (hc0 : w.cell? ⟨g, 0, none⟩ = some (.slice A r.length c))
    (hi : Ints w (fun b => base ≤ b ∧ b < w.heap.size ∧ v.ownBlock ≠ some b) (.slice A r.length c) r) (hb : r.length ≤ c ∧ c ≤ 9223372036854775807) (hlen : rs.length ≤ 1000000) (hbase : base ≤ w.heap.size)
    (h : ∀ v' w', LRow w' base v' (rs ++ [r]) → Chg (fun b => v.ownBlock = some b) w w' → (∀ b, v'.ownBlock = some b → v.ownBlock = some b ∨ w.heap.size ≤ b) → wpList Tryd.prog ops R rest (a.put o.dst v') w') : wpList Tryd.prog ops R (o :: rest) a w := by
  obtain ⟨i0, hi0, hz0, hz1, hz2⟩ := info_parts infoISl
  obtain ⟨cs, h1, h2⟩ := hown
  have hcl : cs.length = rs.length * 1 := h1.1
  refine wpList_append_own2 (P := Tryd.prog) hgd s x 24 ho base 31 i0 _ 1 24 Tryd.underlying24 hi0 hz0 hz1 hz2 rfl (by decide) v rs.length cs hs h1 ⟨g, 0, none⟩ 1 1 [.slice A r.length c] hx rfl (fun k u hk => ?_) (fun u hu => ?_) (by unfold Go.maxLen; omega) (by omega) hbase (fun v' w' k1 k2 k3 => ?_)
  · cases k with
    | zero => simp only [List.getElem?_cons_zero, Option.some.injEq] at hk; subst hk; rw [add_zero]; exact hc0
    | succ k => simp at hk
  · simp at hu; subst hu; rfl
  · have hC := Chg.of_grown k2
    refine h v' w' ⟨cs ++ [.slice A r.length c], by simpa using k1, fun i hi' => ?_⟩ hC k3
    have hnot : ∀ b, b < w.heap.size → v.ownBlock ≠ some b → v'.ownBlock ≠ some b := fun b hb hn e => (k3 b e).elim hn (fun h => by omega)
    by_cases he : i < rs.length
    · rw [List.getElem_append_left he, List.drop_append_of_le_length (by omega), List.take_append_of_le_length (by rw [List.length_drop]; omega)]
      exact ((h2 i he).keep hC (fun b _ hq e => hq.2.2 e)).mono (fun b _ hq => ⟨hq.1, Nat.lt_of_lt_of_le hq.2.1 hC.size, hnot b hq.2.1 hq.2.2⟩)
    · have hi2 : i = rs.length := by simp at hi'; omega
      subst hi2
      rw [List.getElem_append_right (Nat.le_refl _)]
      simp only [Nat.sub_self, List.getElem_cons_zero]
      rw [show rs.length * 1 = cs.length by omega, List.drop_left]
      exact ⟨A, c, rfl, (hi.keep hC (fun b _ hq e => hq.2.2 e)).mono (fun b _ hq => ⟨hq.1, Nat.lt_of_lt_of_le hq.2.1 hC.size, hnot b hq.2.1 hq.2.2⟩), hb⟩
end Go.Proofs.YtgdcffbakjfacaaDoor
end
section
set_option linter.unusedSimpArgs false
set_option linter.unusedVariables false
set_option maxRecDepth 100000
set_option maxHeartbeats 4000000
namespace Go.Proofs.YtgdcffbakjfacaaDoor
open Go.ChangeShapes Go.WideShapes Go.ChangeAt Go.RowKit
open SD
theorem Chg.newSQ {S T : Nat → Prop} {a b c : World} (h : Chg S a b) (k : Chg T b c) (hT : ∀ i, i < a.heap.size → ¬ T i) : Chg S a c :=
  ⟨k.os.trans h.os, k.tape.trans h.tape, k.output.trans h.output, Nat.le_trans h.size k.size, fun i hi hn => (k.block i (Nat.lt_of_lt_of_le hi h.size) (hT i hi)).trans (h.block i hi hn)⟩
/-- the chart that is being read -/
structure RdSt (wf w : World) (bx : Nat) (n : Int) (rs : List (List Int)) (v : Value) : Prop where
  c0 : CellF w ⟨bx, 0, none⟩ (.int .i64 n)
  c1 : CellF w ⟨bx, 1, none⟩ v
  lr : LRow w wf.heap.size v rs
  ch : Chg (fun k => k = bx) wf w
theorem okCol_ne {c : ColM} (h : okCol c = true) : 1 ≤ c.rs.length ∧ (1 ≤ c.n ∧ c.n ≤ 8) ∧ ∀ i (hi : i < c.rs.length), (c.rs[i].length : Int) = c.n := by
  unfold okCol at h
  simp only [Bool.and_eq_true, inB, decide_eq_true_eq, List.all_eq_true] at h
  obtain ⟨⟨h1, h2⟩, h3⟩ := h
  refine ⟨by omega, h1, fun i hi => ?_⟩
  have := h3 _ (List.getElem_mem hi)
  unfold okLine at this
  simp only [Bool.and_eq_true, decide_eq_true_eq] at this
  exact this.1
theorem dig_val {x : Int} (h : 1 ≤ x ∧ x ≤ 4) : wrap64 (wrap64 ((digB x).toNat : Int) - 48) = x := by
  rw [digB_nat h]
  have a1 : wrap64 ((48 + x.toNat : Nat) : Int) = ((48 + x.toNat : Nat) : Int) := IntWalk.wrap64_in _ (by omega)
  have a2 : wrap64 (((48 + x.toNat : Nat) : Int) - 48) = ((48 + x.toNat : Nat) : Int) - 48 := IntWalk.wrap64_in _ (by omega)
  rw [a1, a2]
  clear a1 a2
  omega
theorem ReadColours_any (w : World) (s : ByteArray) (c : ColM) (hok : okCol c = true) (hs : s.data.toList = txtB c.rs) (m : Int) (hm : w.cell? ⟨0, 0, none⟩ = some (.int .i64 m)) :
    Calls Tryd.prog 6 #[.string s] w fun e w' => ∃ (E : Option Addr) (k : Nat), e = .returned (.tuple #[.agg #[.int .i64 c.n, .slice E c.rs.length k], .bool true]) ∧ IntSSV w' (New w.heap.size w'.heap.size) (New w.heap.size w'.heap.size) (New w.heap.size w'.heap.size) (.slice E c.rs.length k) c.rs ∧ c.rs.length ≤ k ∧ k ≤ 9223372036854775807 ∧ Up w w' := by
  obtain ⟨hp1, hp2⟩ := split_txt s c.rs hs (okCol_dig hok)
  have hsz : s.size ≤ 100000 := by
    have h1 := txt_size hok c.rs.length
    rw [List.take_length] at h1
    have h2 : s.size = s.data.toList.length := rfl
    rw [h2, hs]
    omega
  have HM := Lib.hid hm
  have HOK := Lib.hid hok
  have hcl := txt_rows hok
  have HP := Lib.hid (And.intro hp1 hp2)
  clear hm hp1 hp2 hok
  go_enter Tryd.func6, Tryd.ntmps6
  go_wp2_with fail
  refine (Tryd.strings_Split s _ m _ (by omega) (Chg.cell (S := Nowhere) (by repeat (first | exact Chg.refl _ _ | apply Chg.drew | apply Chg.drewN | refine Chg.alloc ?_ _)) HM.out id) (by decide)).mono ?_
  rintro e _ ⟨rfl, rfl⟩
  rw [HP.out.1, HP.out.2]
  obtain ⟨bl, hbl⟩ : ∃ x, x = w.heap.size + 1 := ⟨_, rfl⟩
  obtain ⟨w2, hw2⟩ : ∃ x, x = (w.alloc (.cells #[.int .i64 0, .slice none 0 0] 26)).alloc (.cells ((c.rs.map (fun r => (⟨(lineB r).toArray⟩ : ByteArray)) ++ [(⟨#[]⟩ : ByteArray)]).map Value.string).toArray 9) := ⟨_, rfl⟩
  have PL := Lib.hid (show ∀ i (h : i < c.rs.length), ∃ q : ByteArray, w2.cell? ⟨bl, i, none⟩ = some (.string q) ∧ q.data.toList = lineB c.rs[i] ∧ q.size = c.rs[i].length from fun i h => ⟨⟨(lineB c.rs[i]).toArray⟩, by
    rw [hw2, hbl]
    have h9 := cell_new (w.alloc (.cells #[.int .i64 0, .slice none 0 0] 26)) (((c.rs.map (fun r => (⟨(lineB r).toArray⟩ : ByteArray)) ++ [(⟨#[]⟩ : ByteArray)]).map Value.string).toArray) 9 i
    rw [World.size_alloc] at h9
    rw [h9]
    simp [List.getElem?_append_left, h], rfl, by show (lineB c.rs[i]).toArray.size = _; simp [lineB]⟩)
  have PE := (show w2.cell? ⟨bl, c.rs.length, none⟩ = some (.string ⟨#[]⟩) by
    rw [hw2, hbl]
    have h9 := cell_new (w.alloc (.cells #[.int .i64 0, .slice none 0 0] 26)) (((c.rs.map (fun r => (⟨(lineB r).toArray⟩ : ByteArray)) ++ [(⟨#[]⟩ : ByteArray)]).map Value.string).toArray) 9 c.rs.length
    rw [World.size_alloc] at h9
    rw [h9]
    simp)
  have U2 := Lib.hid (show Up w w2 by rw [hw2]; exact ((Chg.refl Nowhere w).alloc _).alloc _)
  have X0 := Lib.hid (show CellF w2 ⟨w.heap.size, 0, none⟩ (.int .i64 0) by rw [hw2]; exact CellF.up ((Chg.refl _ _).alloc _) (cellF_at rfl rfl))
  have X1 := Lib.hid (show CellF w2 ⟨w.heap.size, 1, none⟩ (.slice none 0 0) by rw [hw2]; exact CellF.up ((Chg.refl _ _).alloc _) (cellF_at rfl rfl))
  have HB2 := Lib.hid (show w2.heap.size = w.heap.size + 2 ∧ bl = w.heap.size + 1 by rw [hw2]; simp [hbl])
  simp only [World.size_alloc]
  rw [← hw2, ← hbl]
  clear hw2 hbl
  obtain ⟨hn1, hn2, hn3⟩ := okCol_ne HOK.out
  obtain ⟨q0, p0, -, z0⟩ := PL.out 0 (by omega)
  have z1 := hn3 0 (by omega)
  have z2 : (q0.size : Int) = c.n := by omega
  have HN := Lib.hid (And.intro hn2 hn3)
  clear z0 z1 hn3
  have d8 : decide ((8 : Int) < (c.rs.length : Int)) = false := decide_eq_false (by omega)
  go_wp2_with fail
  obtain ⟨bx, hbx⟩ : ∃ x, x = w2.heap.size := ⟨_, rfl⟩
  obtain ⟨wf, hwf⟩ : ∃ x, x = w2.alloc (.cells #[.int .i64 c.n, .slice none 0 0] 26) := ⟨_, rfl⟩
  have UF := Lib.hid (show Up w2 wf by rw [hwf]; exact (Chg.refl Nowhere w2).alloc _)
  have ST := Lib.hid (show RdSt wf wf bx c.n (c.rs.take 0) (.slice none 0 0) by rw [hwf, hbx]; exact ⟨cellF_at rfl rfl, cellF_at rfl rfl, LRow.nil _ _, Chg.refl _ _⟩)
  have HBX := Lib.hid (show bx = w.heap.size + 2 ∧ wf.heap.size = w.heap.size + 3 ∧ bl = w.heap.size + 1 by rw [hwf, hbx]; simp only [World.size_alloc]; have := HB2.out; omega)
  rw [← hwf, ← hbx]
  clear hwf hbx p0 PE
  go_loopw [8, 9, 10, 35] (fun _ _ _ i wr => ∃ (t : Nat) (v : Value), t ≤ c.rs.length ∧ i = .int .i64 (t : Int) ∧ Hid (RdSt wf wr bx c.n (c.rs.take t) v)) (fun _ _ _ i _ => c.rs.length - (intOf i).toNat)
  case atStart => exact ⟨0, _, by omega, rfl, ST⟩
  clear ST
  case round =>
    obtain ⟨t, v, ht, rfl, hst⟩ := hrel
    have HCH := Lib.hid hst.out.ch
    by_cases htl : t < c.rs.length
    · obtain ⟨q, hq, hq2, hq3⟩ := PL.out t htl
      have f0 := Chg.cell HCH.out (Chg.cell UF.out hq id) (fun e => by have e : bl = bx := e; have := HBX.out; omega)
      have HQ := Lib.hid hq2
      have htd : decide ((t : Int) < (c.rs.length : Int)) = true := decide_eq_true (by omega)
      obtain ⟨row, hrow⟩ : ∃ row, row = c.rs[t] := ⟨_, rfl⟩
      have HROW := Lib.hid hrow
      have hr8 := txt_row HOK.out htl
      have hdig := okCol_dig HOK.out _ (List.getElem_mem htl)
      rw [← hrow] at hq2 hq3 hr8 hdig
      have HQ2 := Lib.hid hq2
      have HDG := Lib.hid hdig
      clear hq hq2 hrow HQ hdig
      obtain ⟨wk, hwk⟩ : ∃ x, x = wr := ⟨_, rfl⟩
      subst hwk
      have hsw := HCH.out.size
      go_wp2
      clear f0
      go_loopw [9, 10, 42] (fun z _ i wx => ∃ (j : Nat), j ≤ row.length ∧ i = .int .i64 (j : Int) ∧ Hid (OwnI wx wk.heap.size z (row.take j)) ∧ Hid (Up wk wx)) (fun _ _ i _ => row.length - (intOf i).toNat)
      case atStart => exact ⟨0, by omega, rfl, Lib.hid (OwnI.made wk _ (Nat.le_refl _)), Lib.hid (Chg.alloc (Chg.refl _ _) _)⟩
      case round =>
        obtain ⟨j, hj, rfl, ho, hu⟩ := hrel
        have hsx := hu.out.size
        by_cases hjl : j < row.length
        · have htj : decide ((j : Int) < (q.size : Int)) = true := decide_eq_true (by omega)
          have htj2 : decide ((j : Int) < (row.length : Int)) = true := decide_eq_true (by omega)
          have hqi : q.data[j]? = some (digB row[j]) := by
            have h1 : q.data.toList[j]? = some (digB row[j]) := by rw [HQ2.out, List.getElem?_eq_getElem (by rw [lineB_length]; exact hjl), lineB_at hjl]
            simpa using h1
          have hdx := HDG.out _ (List.getElem_mem hjl)
          have hjq : j < q.size := by omega
          have hg : q[j]'hjq = digB row[j] := by
            have h1 : q.data[j]'hjq = digB row[j] := by
              have h2 := Array.getElem?_eq_getElem (xs := q.data) (i := j) hjq
              rw [hqi] at h2
              exact (Option.some.inj h2).symm
            exact h1
          have HXI := Lib.hid (show I64 row[j] by unfold I64; omega)
          have HTL := Lib.hid (show (row.take j).length ≤ 1000 by rw [List.length_take]; omega)
          have HBW := Lib.hid (show wk.heap.size ≤ wr.heap.size by omega)
          have hval : wrap64 (wrap64 ((q[j]'hjq).toNat : Int) - 48) = row[j] := by rw [hg]; exact dig_val hdx
          clear hg hqi
          go_wp2_with (at_builtin; refine wp_append_int rfl _ _ rfl wk.heap.size _ (row.take j) rfl (ho.out.alloc _) _ (row[j]) rfl (cell_new _ _ _ _) HXI.out (Nat.le_trans HTL.out (by decide)) ?_ ?_; (exact Nat.le_trans HBW.out (by rw [World.size_alloc]; exact Nat.le_succ _)); intro v1 w1 h1 _ h3; have HO := Lib.hid h1; have HA := Lib.hid h3; clear h1 h3)
          have HOT := Lib.hid (show OwnI w1 wk.heap.size v1 (row.take (j + 1)) by rw [List.take_succ_eq_append_getElem hjl]; exact HO.out)
          have HUN := Lib.hid (show Up wk w1 from Chg.new (hu.out.alloc _) HA.out (fun i hi e => by have e : wk.heap.size ≤ i := e; omega))
          clear hval
          go_roundw
          case rel => exact ⟨j + 1, by omega, by go_num, HOT, HUN⟩
          case measure => first | (simp [intOf]; done) | (simp [intOf]; omega)
        · obtain rfl : j = row.length := by omega
          have htj : decide ((row.length : Int) < (row.length : Int)) = false := decide_eq_false (by omega)
          have ho2 := ho.out
          rw [List.take_length] at ho2
          obtain ⟨Aq, cq, rfl, hq1, hq2', -⟩ := ho2.ints.shape
          have HQQ := Lib.hid (And.intro hq1 hq2')
          obtain ⟨Ev, kv, rfl, hv1, hv2, -⟩ := hst.out.lr.val
          obtain ⟨e1, e1f⟩ := CellF.up hu.out hst.out.c1
          have HLR := Lib.hid (show LRow wr wf.heap.size (.slice Ev (c.rs.take t).length kv) (c.rs.take t) from hst.out.lr.up hu.out)
          have HNB := Lib.hid (show ∀ g, (Value.slice Ev (c.rs.take t).length kv).ownBlock = some g → wf.heap.size ≤ g ∧ g < wk.heap.size from fun g h => hst.out.lr.lt h)
          have HRI := Lib.hid (show Ints wr (fun b' => wf.heap.size ≤ b' ∧ b' < wr.heap.size ∧ (Value.slice Ev (c.rs.take t).length kv).ownBlock ≠ some b') (.slice Aq row.length cq) row from ho2.ints.mono (fun b' hb h => ⟨by have := h.1; omega, hb, fun e => by have := (HNB.out b' e).2; have := h.1; omega⟩))
          have HC0 := Lib.hid (CellF.up hu.out hst.out.c0)
          have hrl : (c.rs.take t).length ≤ 8 := by rw [List.length_take]; omega
          clear hq1 hq2' hst ho2 hv1 hv2
          obtain ⟨rt, hrt⟩ : ∃ rt, rt = c.rs.take t := ⟨_, rfl⟩
          have HRT := Lib.hid hrt
          rw [← hrt] at HLR HNB HRI e1 hrl
          clear hrt
          go_wp2_with (at_builtin; refine wp_append_lrow rfl _ _ rfl wf.heap.size _ rt rfl (HLR.out.up ((Chg.refl _ _).alloc _)) wr.heap.size row Aq cq rfl (cell_new _ _ _ _) ((HRI.out.up ((Chg.refl _ _).alloc _)).mono (fun b' hb h => ⟨h.1, hb, h.2.2⟩)) HQQ.out (by omega) (by simp; omega) ?_; intro v' w' h1 h2 h3; obtain ⟨E5, e5, rfl, -⟩ := h1.val; have GG := Lib.hid h1; have GC := Lib.hid h2; have UA := Lib.hid (show Up wr (wr.alloc (.cells #[.slice Aq row.length cq] 31)) from (Chg.refl _ _).alloc _); obtain ⟨q1, q2⟩ := CellF.keep h2 (CellF.up UA.out ⟨e1, e1f⟩) (fun e => by have := (HNB.out bx e).1; have := HBX.out; omega); clear h1 h2 h3)
          have hlq : (rt ++ [row]).length = rt.length + 1 := by simp
          have CB := Lib.hid (show Chg (fun k => k = bx) w' (w'.setCell ⟨bx, 1, none⟩ (.slice E5 (rt ++ [row]).length e5)) from Chg.setCell (Chg.refl (fun k => k = bx) w') (p := ⟨bx, 1, none⟩) (.inl (show bx = bx from rfl)) _)
          have NW := Lib.hid (show ∀ g, g < wf.heap.size → ¬ (Value.slice Ev rt.length kv).ownBlock = some g from fun g h e => by have := (HNB.out g e).1; omega)
          have HCW := Lib.hid (show Chg (fun k => k = bx) wf w' from Chg.newSQ (Chg.trans HCH.out (Chg.of_up (Chg.trans hu.out UA.out))) GC.out (fun i hi e => NW.out i hi e))
          have HBF : bx < wf.heap.size := by have := HBX.out; omega
          have HTT : rt ++ [row] = c.rs.take (t + 1) := by rw [HRT.out, HROW.out, List.take_succ_eq_append_getElem htl]
          have HDN := Lib.hid (show RdSt wf (w'.setCell ⟨bx, 1, none⟩ (.slice E5 (rt ++ [row]).length e5)) bx c.n (c.rs.take (t + 1)) (.slice E5 (rt ++ [row]).length e5) from ⟨CellF.set_ne (CellF.keep GC.out (CellF.up UA.out HC0.out) (NW.out bx HBF)) (fun e => by injection e with _ e2; omega), CellF.set ⟨q1, q2⟩, HTT ▸ GG.out.kept CB.out (fun b' h1 _ e => by have e : b' = bx := e; omega), Chg.trans HCW.out CB.out⟩)
          have HXY := HDN
          rw [hlq] at HDN
          go_roundw
          case rel => exact ⟨t + 1, _, by omega, by go_num, HDN⟩
          case measure => first | (simp [intOf]; done) | (simp [intOf]; omega)
    · obtain rfl : t = c.rs.length := by omega
      have htd : decide ((c.rs.length : Int) < (c.rs.length : Int)) = false := decide_eq_false (by omega)
      obtain ⟨c0, d0⟩ := hst.out.c0
      obtain ⟨Ev, kv, rfl, hv1, hv2, -⟩ := hst.out.lr.val
      obtain ⟨c1, d1⟩ := hst.out.c1
      have hrd := hst.out.lr.rd (New w.heap.size wr.heap.size)
      have hrd2 := hst.out.lr.rd (fun b => wf.heap.size ≤ b ∧ b < wr.heap.size)
      rw [List.take_length] at c1 hv1 hrd hrd2
      have HV2 := Lib.hid (And.intro hv1 hv2)
      have ZC0 := Lib.hid (And.intro c0 d0)
      have ZC1 := Lib.hid (And.intro c1 d1)
      have HSI := Lib.hid (show IntSSV wr (New w.heap.size wr.heap.size) (New w.heap.size wr.heap.size) (New w.heap.size wr.heap.size) (.slice Ev c.rs.length kv) c.rs from hrd.mono (fun b _ h => h) (fun b hb h => ⟨by have := h.1; have := HBX.out; omega, hb⟩) (fun b hb h => ⟨by have := h.1; have := HBX.out; omega, hb⟩))
      have HSJ := Lib.hid (show IntSSV wr (fun b => wf.heap.size ≤ b ∧ b < wr.heap.size) (fun b => wf.heap.size ≤ b ∧ b < wr.heap.size) (fun b => wf.heap.size ≤ b ∧ b < wr.heap.size) (.slice Ev c.rs.length kv) c.rs from hrd2)
      have HUR := Lib.hid (show Up w wr from Chg.new (Chg.trans U2.out UF.out) HCH.out (fun i hi e => by have e : i = bx := e; have := HBX.out; omega))
      have x0 := (CellF.keep HCH.out (CellF.up UF.out X0.out) (fun e => by have e : w.heap.size = bx := e; have := HBX.out; omega))
      have x1 := (CellF.keep HCH.out (CellF.up UF.out X1.out) (fun e => by have e : w.heap.size = bx := e; have := HBX.out; omega))
      clear hst hv1 hv2 hrd hrd2
      go_wp2_with fail
      refine (ValidColours_any _ _ _ _ _ c ((show ColV wr (New w.heap.size wr.heap.size) (New w.heap.size wr.heap.size) (New w.heap.size wr.heap.size) (.agg #[.int .i64 c.n, .slice Ev c.rs.length kv]) c from ⟨Ev, kv, rfl, HSI.out, HV2.out, show I64 c.n by have := HN.out.1; unfold I64; omega⟩).up (by repeat (first | exact Chg.refl _ _ | apply Chg.drew | apply Chg.drewN | refine Chg.alloc ?_ _)))).mono ?_
      rintro e w7 ⟨rfl, g7⟩
      rw [HOK.out]
      have G7 := Lib.hid (show Up wr w7 from Chg.trans (by repeat (first | exact Chg.refl _ _ | apply Chg.drew | apply Chg.drewN | refine Chg.alloc ?_ _)) g7)
      clear c0 c1 g7
      obtain ⟨c0, d0⟩ := CellF.up G7.out ZC0.out
      obtain ⟨c1, d1⟩ := CellF.up G7.out ZC1.out
      obtain ⟨x0, y0⟩ := CellF.up G7.out x0
      obtain ⟨x1, y1⟩ := CellF.up G7.out x1
      go_wp2_with fail
      have CZ := Lib.hid (show Chg (fun b => b = w.heap.size) w7 ((w7.setCell ⟨w.heap.size, 0, none⟩ (.int .i64 c.n)).setCell ⟨w.heap.size, 1, none⟩ (.slice Ev c.rs.length kv)) from Chg.setCell (Chg.setCell (Chg.refl (fun b => b = w.heap.size) w7) (p := ⟨w.heap.size, 0, none⟩) (.inl (show w.heap.size = w.heap.size from rfl)) _) (p := ⟨w.heap.size, 1, none⟩) (.inl (show w.heap.size = w.heap.size from rfl)) _)
      refine bodyPost_ret (v := .tuple #[.agg #[.int .i64 c.n, .slice Ev c.rs.length kv], .bool true]) (by simp [results, Tryd.results6, go_sem, x0, x1]) rfl ?_
      have HR3 := Lib.hid (show IntSSV wr (fun b => wf.heap.size ≤ b ∧ b < wr.heap.size) (fun b => wf.heap.size ≤ b ∧ b < wr.heap.size) (fun b => wf.heap.size ≤ b ∧ b < wr.heap.size) (.slice Ev c.rs.length kv) c.rs from HSJ.out)
      refine ⟨Ev, kv, rfl, ((HR3.out.up G7.out).keep CZ.out (fun b h e => by have e : b = w.heap.size := e; have := HBX.out; rcases h with h | h | h <;> (have := h.1; omega))).mono (fun b hb h => ⟨by have := h.1; have := HBX.out; omega, hb⟩) (fun b hb h => ⟨by have := h.1; have := HBX.out; omega, hb⟩) (fun b hb h => ⟨by have := h.1; have := HBX.out; omega, hb⟩), HV2.out.1, HV2.out.2, Chg.new (Chg.trans HUR.out G7.out) CZ.out (fun i hi e => by have e : i = w.heap.size := e; omega)⟩
end Go.Proofs.YtgdcffbakjfacaaDoor
end
section
set_option linter.unusedVariables false
namespace Go.Proofs.YtgdcffbakjfacaaDoor
/-- how many elements of a row have carriers up to m -/
def doneTo (row : List Int) (m : Nat) : Nat := (row.filter fun x => decide (x ≤ (m : Int))).length
def cntK (row : List Int) (k : Int) : Nat := (row.filter fun x => decide (x = k)).length
theorem doneTo_succ (row : List Int) (m : Nat) : doneTo row (m + 1) = doneTo row m + cntK row ((m : Int) + 1) := by
  unfold doneTo cntK
  induction row with
  | nil => rfl
  | cons x xs ih =>
    rw [List.filter_cons, List.filter_cons, List.filter_cons]
    by_cases h1 : x ≤ (m : Int)
    · have h2 : x ≤ ((m + 1 : Nat) : Int) := by omega
      have h3 : ¬ x = (m : Int) + 1 := by omega
      rw [if_pos (by simpa using h2), if_pos (by simpa using h1), if_neg (by simpa using h3), List.length_cons, List.length_cons]
      omega
    · by_cases h3 : x = (m : Int) + 1
      · have h2 : x ≤ ((m + 1 : Nat) : Int) := by omega
        rw [if_pos (by simpa using h2), if_neg (by simpa using h1), if_pos (by simpa using h3), List.length_cons, List.length_cons]
        omega
      · have h2 : ¬ x ≤ ((m + 1 : Nat) : Int) := by omega
        rw [if_neg (by simpa using h2), if_neg (by simpa using h1), if_neg (by simpa using h3)]
        exact ih
theorem doneTo_le (row : List Int) (m : Nat) : doneTo row m ≤ row.length := List.length_filter_le _ _
theorem doneTo_zero {row : List Int} (h : ∀ x ∈ row, 1 ≤ x) : doneTo row 0 = 0 := by
  unfold doneTo
  rw [List.filter_eq_nil_iff.2 fun x hx => by have := h x hx; simp; omega]
  rfl
theorem doneTo_four {row : List Int} (h : ∀ x ∈ row, x ≤ 4) : doneTo row 4 = row.length := by
  unfold doneTo
  rw [List.filter_eq_self.2 fun x hx => by have := h x hx; simp; omega]
theorem cntK_zero {row : List Int} {k : Int} (h : ¬ k ∈ row) : cntK row k = 0 := by
  unfold cntK
  rw [List.filter_eq_nil_iff.2 fun x hx => by simp; intro e; subst e; exact h hx]
  rfl
theorem cntK_pos {row : List Int} {k : Int} (h : k ∈ row) : 0 < cntK row k := by
  unfold cntK
  exact List.length_pos_of_mem (List.mem_filter.2 ⟨h, by simp⟩)
theorem cntK_take {row : List Int} {k : Int} {j : Nat} (hj : j < row.length) : cntK (row.take (j + 1)) k = cntK (row.take j) k + (if row[j] = k then 1 else 0) := by
  unfold cntK
  rw [List.take_succ_eq_append_getElem hj, List.filter_append, List.length_append]
  congr 1
  by_cases h : row[j] = k
  · rw [if_pos h, List.filter_cons_of_pos (by simpa using h)]; rfl
  · rw [if_neg h, List.filter_cons_of_neg (by simpa using h)]; rfl
/-- no carrier between: nothing happens -/
theorem colRow_skip (row : List Int) (s : ColS) (m : Nat) : ∀ d, (∀ t, m ≤ t → t < m + d → ¬ ((t : Int) + 1) ∈ row) → colRow 0 row s (m + d) = colRow 0 row s m ∧ doneTo row (m + d) = doneTo row m
  | 0, _ => ⟨rfl, rfl⟩
  | d + 1, h => by
    obtain ⟨h1, h2⟩ := colRow_skip row s m d (fun t a b => h t a (by omega))
    have h3 := h (m + d) (by omega) (by omega)
    refine ⟨?_, ?_⟩
    · rw [show m + (d + 1) = (m + d) + 1 by omega, colRow, h1]
      exact if_neg (by exact_mod_cast h3)
    · rw [show m + (d + 1) = (m + d) + 1 by omega, doneTo_succ, h2, cntK_zero (by exact_mod_cast h3)]
      omega
/-- the next carrier of a row -/
theorem next_car (row : List Int) (hr : ∀ x ∈ row, 1 ≤ x ∧ x ≤ 4) {m : Nat} (hm : m ≤ 4) (hd : doneTo row m < row.length) : ∃ d, m + d < 4 ∧ ((m + d : Nat) : Int) + 1 ∈ row ∧ ∀ t, m ≤ t → t < m + d → ¬ ((t : Int) + 1) ∈ row := by
  have key : ∀ e, m + e ≤ 4 → (∀ t, m ≤ t → t < m + e → ¬ ((t : Int) + 1) ∈ row) ∨ ∃ d, d < e ∧ ((m + d : Nat) : Int) + 1 ∈ row ∧ ∀ t, m ≤ t → t < m + d → ¬ ((t : Int) + 1) ∈ row := by
    intro e
    induction e with
    | zero => intro _; exact .inl fun t a b => by omega
    | succ e ih =>
      intro he
      rcases ih (by omega) with h | ⟨d, h1, h2, h3⟩
      · by_cases hx : ((m + e : Nat) : Int) + 1 ∈ row
        · exact .inr ⟨e, by omega, hx, h⟩
        · refine .inl fun t a b => ?_
          by_cases ht : t = m + e
          · subst ht; exact hx
          · exact h t a (by omega)
      · exact .inr ⟨d, by omega, h2, h3⟩
  rcases key (4 - m) (by omega) with h | ⟨d, h1, h2, h3⟩
  · have h4 := (colRow_skip row ⟨[], []⟩ m (4 - m) h).2
    rw [show m + (4 - m) = 4 by omega, doneTo_four (fun x hx => (hr x hx).2)] at h4
    omega
  · exact ⟨d, by omega, h2, h3⟩
/-- all carriers are done: nothing more is knit in this row -/
theorem row_end (row : List Int) (hr : ∀ x ∈ row, 1 ≤ x ∧ x ≤ 4) {m : Nat} (hm : m ≤ 4) (hd : ¬ doneTo row m < row.length) (s : ColS) : colRow 0 row s 4 = colRow 0 row s m := by
  have h4 := doneTo_four (fun x hx => (hr x hx).2)
  have key : ∀ d, m + d ≤ 4 → ∀ t, m ≤ t → t < m + d → ¬ ((t : Int) + 1) ∈ row := by
    intro d hd2 t h1 h2 hx
    have h5 := cntK_pos hx
    have h6 := doneTo_succ row t
    have h7 : doneTo row m ≤ doneTo row t := by
      obtain ⟨e, rfl⟩ : ∃ e, t = m + e := ⟨t - m, by omega⟩
      clear h1 h2 hx h5 h6
      induction e with
      | zero => exact Nat.le_refl _
      | succ e ih => have := doneTo_succ row (m + e); rw [show m + (e + 1) = (m + e) + 1 by omega]; omega
    have h8 := doneTo_le row (t + 1)
    omega
  have := (colRow_skip row s m (4 - m) (key _ (by omega))).1
  rwa [show m + (4 - m) = 4 by omega] at this
/-- what stands once stays: rows are only appended -/
theorem colK_pre (row : List Int) (s : ColS) (k : Nat) : ∃ r, (colK 0 row s k).rs = s.rs ++ r := by
  unfold colK
  split
  · exact ⟨_, rfl⟩
  · exact ⟨[], by simp⟩
theorem colRow_pre (row : List Int) (s : ColS) (m : Nat) : ∀ d, ∃ r, (colRow 0 row s (m + d)).rs = (colRow 0 row s m).rs ++ r
  | 0 => ⟨[], by simp⟩
  | d + 1 => by
    obtain ⟨r, h⟩ := colRow_pre row s m d
    obtain ⟨r2, h2⟩ := colK_pre row (colRow 0 row s (m + d)) (m + d)
    exact ⟨r ++ r2, by rw [← List.append_assoc, ← h, ← h2]; rfl⟩
theorem colTo_pre (rows : List (List Int)) (i : Nat) : ∀ d, ∃ r, (colTo 0 rows (i + d)).rs = (colTo 0 rows i).rs ++ r
  | 0 => ⟨[], by simp⟩
  | d + 1 => by
    obtain ⟨r, h⟩ := colTo_pre rows i d
    obtain ⟨r2, h2⟩ := colRow_pre (colAt rows (i + d)) (colTo 0 rows (i + d)) 0 4
    exact ⟨r ++ r2, by rw [← List.append_assoc, ← h]; exact h2⟩
/-- the row that the law looks at next -/
theorem row_at (rows : List (List Int)) {i : Nat} (hi : i < rows.length) (hr : ∀ x ∈ rows[i], 1 ≤ x ∧ x ≤ 4) {m : Nat} (hm : m ≤ 4) (hd : doneTo rows[i] m < rows[i].length) :
    ∃ m', m ≤ m' ∧ m' < 4 ∧ ((m' : Int) + 1) ∈ rows[i] ∧ doneTo rows[i] m' = doneTo rows[i] m ∧ (colRow 0 rows[i] (colTo 0 rows i) m').rs.length = (colRow 0 rows[i] (colTo 0 rows i) m).rs.length ∧
      (colRow 0 rows[i] (colTo 0 rows i) (m' + 1)).rs.length = (colRow 0 rows[i] (colTo 0 rows i) m).rs.length + 1 ∧
      ∃ (h : (colRow 0 rows[i] (colTo 0 rows i) m).rs.length < (colTo 0 rows rows.length).rs.length) (d : Int), (colTo 0 rows rows.length).rs[(colRow 0 rows[i] (colTo 0 rows i) m).rs.length] = ⟨d, (m' : Int) + 1, baseSt rows[i] ((m' : Int) + 1)⟩ := by
  obtain ⟨d, h1, h2, h3⟩ := next_car rows[i] hr hm hd
  obtain ⟨e1, e2⟩ := colRow_skip rows[i] (colTo 0 rows i) m d h3
  have hk : (colRow 0 rows[i] (colTo 0 rows i) (m + d + 1)).rs = (colRow 0 rows[i] (colTo 0 rows i) m).rs ++ [⟨dirOf (colRow 0 rows[i] (colTo 0 rows i) m) (m + d), ((m + d : Nat) : Int) + 1, baseSt rows[i] (((m + d : Nat) : Int) + 1)⟩] := by
    rw [colRow, e1]
    unfold colK
    rw [if_pos h2]
    rfl
  obtain ⟨r, hr2⟩ := colRow_pre rows[i] (colTo 0 rows i) (m + d + 1) (4 - (m + d + 1))
  rw [show m + d + 1 + (4 - (m + d + 1)) = 4 by omega] at hr2
  have h5 : (colTo 0 rows (i + 1)).rs = (colRow 0 rows[i] (colTo 0 rows i) 4).rs := by rw [colTo, colAt_eq hi]
  obtain ⟨r3, h6⟩ := colTo_pre rows (i + 1) (rows.length - (i + 1))
  rw [show i + 1 + (rows.length - (i + 1)) = rows.length by omega, h5, hr2, hk] at h6
  refine ⟨m + d, by omega, h1, h2, e2, by rw [e1], by rw [hk]; simp, by rw [h6]; simp, dirOf (colRow 0 rows[i] (colTo 0 rows i) m) (m + d), ?_⟩
  · simp only [h6, List.append_assoc]
    rw [List.getElem_append_right (Nat.le_refl _)]
    simp
/-- counts -/
theorem sum_set_succ : ∀ (xs : List Int) (k : Nat) (h : k < xs.length), (xs.set k (xs[k] + 1)).sum = xs.sum + 1
  | [], k, h => by simp at h
  | x :: xs, 0, _ => by simp; omega
  | x :: xs, k + 1, h => by
    have := sum_set_succ xs k (by simpa using h)
    simp only [List.set_cons_succ, List.getElem_cons_succ, List.sum_cons, this]
    omega
end Go.Proofs.YtgdcffbakjfacaaDoor
end
namespace Go.Proofs.YtgdcffbakjfacaaDoor
def lcgF (x : Nat) : Nat := (x * 6364136223846793005 + 1442695040888963407) % 18446744073709551616
def itF (f : Nat → Nat) : Nat → Nat → Nat
  | 0, x => x
  | n + 1, x => itF f n (f x)
theorem itF_add (f : Nat → Nat) : ∀ m n x, itF f (m + n) x = itF f n (itF f m x)
  | 0, n, x => by rw [Nat.zero_add]; rfl
  | m + 1, n, x => by rw [Nat.add_right_comm]; exact itF_add f m n (f x)
theorem itF_s (f : Nat → Nat) (n x : Nat) : itF f (n + 1) x = itF f n (f x) := rfl
theorem itF_z (f : Nat → Nat) (x : Nat) : itF f 0 x = x := rfl
theorem itF_1 (f : Nat → Nat) (x : Nat) : itF f 1 x = f x := rfl
theorem lcgF_eq (x : Nat) : lcgF x = (x * 6364136223846793005 + 1442695040888963407) % 18446744073709551616 := by unfold lcgF; rfl
theorem lcg_0 (x : Nat) : itF lcgF 1 x = (x * 6364136223846793005 + 1442695040888963407) % 18446744073709551616 := by rw [itF_1, lcgF_eq]
theorem lcg_1 (x : Nat) : itF lcgF 2 x = (x * 7520897724310334953 + 1876011003808476466) % 18446744073709551616 := by
  rw [show 2 = 1 + 1 from rfl, itF_add, lcg_0, lcg_0]
  omega
theorem lcg_2 (x : Nat) : itF lcgF 4 x = (x * 18108194425815612945 + 7401132627792533940) % 18446744073709551616 := by
  rw [show 4 = 2 + 2 from rfl, itF_add, lcg_1, lcg_1]
  omega
theorem lcg_3 (x : Nat) : itF lcgF 8 x = (x * 13086856194709077281 + 6566661184467396264) % 18446744073709551616 := by
  rw [show 8 = 4 + 4 from rfl, itF_add, lcg_2, lcg_2]
  omega
theorem lcg_4 (x : Nat) : itF lcgF 16 x = (x * 10186629832379121217 + 3646985772805368400) % 18446744073709551616 := by
  rw [show 16 = 8 + 8 from rfl, itF_add, lcg_3, lcg_3]
  omega
theorem lcg_5 (x : Nat) : itF lcgF 32 x = (x * 10828933358287359105 + 982119659650238624) % 18446744073709551616 := by
  rw [show 32 = 16 + 16 from rfl, itF_add, lcg_4, lcg_4]
  omega
theorem lcg_6 (x : Nat) : itF lcgF 64 x = (x * 4910590176156014849 + 10607473198416945472) % 18446744073709551616 := by
  rw [show 64 = 32 + 32 from rfl, itF_add, lcg_5, lcg_5]
  omega
theorem lcg_7 (x : Nat) : itF lcgF 128 x = (x * 9908147928152388097 + 6914523672464851584) % 18446744073709551616 := by
  rw [show 128 = 64 + 64 from rfl, itF_add, lcg_6, lcg_6]
  omega
theorem lcg_8 (x : Nat) : itF lcgF 256 x = (x * 146241703003251713 + 4689171378020353280) % 18446744073709551616 := by
  rw [show 256 = 128 + 128 from rfl, itF_add, lcg_7, lcg_7]
  omega
theorem lcg_9 (x : Nat) : itF lcgF 512 x = (x * 7321387688379467777 + 8103286608563669504) % 18446744073709551616 := by
  rw [show 512 = 256 + 256 from rfl, itF_add, lcg_8, lcg_8]
  omega
theorem lcg_10 (x : Nat) : itF lcgF 1024 x = (x * 12255457568021647361 + 7710372194127975424) % 18446744073709551616 := by
  rw [show 1024 = 512 + 512 from rfl, itF_add, lcg_9, lcg_9]
  omega
theorem lcg_11 (x : Nat) : itF lcgF 2048 x = (x * 9867978473775767553 + 16043993925053589504) % 18446744073709551616 := by
  rw [show 2048 = 1024 + 1024 from rfl, itF_add, lcg_10, lcg_10]
  omega
theorem lcg_12 (x : Nat) : itF lcgF 4096 x = (x * 5088048636545613825 + 1993901509916512256) % 18446744073709551616 := by
  rw [show 4096 = 2048 + 2048 from rfl, itF_add, lcg_11, lcg_11]
  omega
theorem lcg_13 (x : Nat) : itF lcgF 8192 x = (x * 2150478223927705601 + 13175896319671181312) % 18446744073709551616 := by
  rw [show 8192 = 4096 + 4096 from rfl, itF_add, lcg_12, lcg_12]
  omega
theorem lcg_14 (x : Nat) : itF lcgF 16384 x = (x * 9196835419631190017 + 1993366741509554176) % 18446744073709551616 := by
  rw [show 16384 = 8192 + 8192 from rfl, itF_add, lcg_13, lcg_13]
  omega
theorem lcg_15 (x : Nat) : itF lcgF 32768 x = (x * 5957860013156466689 + 7241871532530761728) % 18446744073709551616 := by
  rw [show 32768 = 16384 + 16384 from rfl, itF_add, lcg_14, lcg_14]
  omega
theorem lcg_16 (x : Nat) : itF lcgF 65536 x = (x * 10389140232424652801 + 9829074100562493440) % 18446744073709551616 := by
  rw [show 65536 = 32768 + 32768 from rfl, itF_add, lcg_15, lcg_15]
  omega
theorem lcg_17 (x : Nat) : itF lcgF 131072 x = (x * 13023643825678581761 + 7211655632440131584) % 18446744073709551616 := by
  rw [show 131072 = 65536 + 65536 from rfl, itF_add, lcg_16, lcg_16]
  omega
theorem lcg_18 (x : Nat) : itF lcgF 262144 x = (x * 288945459443007489 + 14014807304630960128) % 18446744073709551616 := by
  rw [show 262144 = 131072 + 131072 from rfl, itF_add, lcg_17, lcg_17]
  omega
theorem lcg_19 (x : Nat) : itF lcgF 524288 x = (x * 13413133364217511937 + 15586959662575517696) % 18446744073709551616 := by
  rw [show 524288 = 262144 + 262144 from rfl, itF_add, lcg_18, lcg_18]
  omega
theorem lcg_20 (x : Nat) : itF lcgF 1048576 x = (x * 8991946233350193153 + 5614651135149211648) % 18446744073709551616 := by
  rw [show 1048576 = 524288 + 524288 from rfl, itF_add, lcg_19, lcg_19]
  omega
theorem lcg_21 (x : Nat) : itF lcgF 2097152 x = (x * 1986842707489718273 + 10449321915693662208) % 18446744073709551616 := by
  rw [show 2097152 = 1048576 + 1048576 from rfl, itF_add, lcg_20, lcg_20]
  omega
theorem lcg_22 (x : Nat) : itF lcgF 4194304 x = (x * 13772462672974970881 + 17778722412968280064) % 18446744073709551616 := by
  rw [show 4194304 = 2097152 + 2097152 from rfl, itF_add, lcg_21, lcg_21]
  omega
theorem lcg_23 (x : Nat) : itF lcgF 8388608 x = (x * 11399802156803424257 + 4631015078550831104) % 18446744073709551616 := by
  rw [show 8388608 = 4194304 + 4194304 from rfl, itF_add, lcg_22, lcg_22]
  omega
theorem lcg_24 (x : Nat) : itF lcgF 16777216 x = (x * 13559343778149433345 + 14683519683525607424) % 18446744073709551616 := by
  rw [show 16777216 = 8388608 + 8388608 from rfl, itF_add, lcg_23, lcg_23]
  omega
theorem lcg_25 (x : Nat) : itF lcgF 33554432 x = (x * 8604389488178757633 + 14159509325327892480) % 18446744073709551616 := by
  rw [show 33554432 = 16777216 + 16777216 from rfl, itF_add, lcg_24, lcg_24]
  omega
theorem lcg_26 (x : Nat) : itF lcgF 67108864 x = (x * 16938562998715285505 + 4382386631181598720) % 18446744073709551616 := by
  rw [show 67108864 = 33554432 + 33554432 from rfl, itF_add, lcg_25, lcg_25]
  omega
theorem lcg_27 (x : Nat) : itF lcgF 134217728 x = (x * 14349518013152100353 + 5251965553014210560) % 18446744073709551616 := by
  rw [show 134217728 = 67108864 + 67108864 from rfl, itF_add, lcg_26, lcg_26]
  omega
theorem lcg_28 (x : Nat) : itF lcgF 268435456 x = (x * 5928836310318972929 + 14899444342342025216) % 18446744073709551616 := by
  rw [show 268435456 = 134217728 + 134217728 from rfl, itF_add, lcg_27, lcg_27]
  omega
theorem lcg_29 (x : Nat) : itF lcgF 536870912 x = (x * 13010594125244792833 + 10487453482519363584) % 18446744073709551616 := by
  rw [show 536870912 = 268435456 + 268435456 from rfl, itF_add, lcg_28, lcg_28]
  omega
theorem lcg_30 (x : Nat) : itF lcgF 1073741824 x = (x * 12186130195207421953 + 17516142451218186240) % 18446744073709551616 := by
  rw [show 1073741824 = 536870912 + 536870912 from rfl, itF_add, lcg_29, lcg_29]
  omega
theorem lcg_31 (x : Nat) : itF lcgF 2147483648 x = (x * 5925516316705292289 + 2750482773444657152) % 18446744073709551616 := by
  rw [show 2147483648 = 1073741824 + 1073741824 from rfl, itF_add, lcg_30, lcg_30]
  omega
theorem lcg_32 (x : Nat) : itF lcgF 4294967296 x = (x * 11851032633410584577 + 5500965546889314304) % 18446744073709551616 := by
  rw [show 4294967296 = 2147483648 + 2147483648 from rfl, itF_add, lcg_31, lcg_31]
  omega
theorem lcg_33 (x : Nat) : itF lcgF 8589934592 x = (x * 5255321193111617537 + 11001931093778628608) % 18446744073709551616 := by
  rw [show 8589934592 = 4294967296 + 4294967296 from rfl, itF_add, lcg_32, lcg_32]
  omega
theorem lcg_34 (x : Nat) : itF lcgF 17179869184 x = (x * 10510642386223235073 + 3557118113847705600) % 18446744073709551616 := by
  rw [show 17179869184 = 8589934592 + 8589934592 from rfl, itF_add, lcg_33, lcg_33]
  omega
theorem lcg_35 (x : Nat) : itF lcgF 34359738368 x = (x * 2574540698736918529 + 7114236227695411200) % 18446744073709551616 := by
  rw [show 34359738368 = 17179869184 + 17179869184 from rfl, itF_add, lcg_34, lcg_34]
  omega
theorem lcg_36 (x : Nat) : itF lcgF 68719476736 x = (x * 5149081397473837057 + 14228472455390822400) % 18446744073709551616 := by
  rw [show 68719476736 = 34359738368 + 34359738368 from rfl, itF_add, lcg_35, lcg_35]
  omega
theorem lcg_37 (x : Nat) : itF lcgF 137438953472 x = (x * 10298162794947674113 + 10010200837072093184) % 18446744073709551616 := by
  rw [show 137438953472 = 68719476736 + 68719476736 from rfl, itF_add, lcg_36, lcg_36]
  omega
theorem lcg_38 (x : Nat) : itF lcgF 274877906944 x = (x * 2149581516185796609 + 1573657600434634752) % 18446744073709551616 := by
  rw [show 274877906944 = 137438953472 + 137438953472 from rfl, itF_add, lcg_37, lcg_37]
  omega
theorem lcg_39 (x : Nat) : itF lcgF 549755813888 x = (x * 4299163032371593217 + 3147315200869269504) % 18446744073709551616 := by
  rw [show 549755813888 = 274877906944 + 274877906944 from rfl, itF_add, lcg_38, lcg_38]
  omega
theorem lcg_40 (x : Nat) : itF lcgF 1099511627776 x = (x * 8598326064743186433 + 6294630401738539008) % 18446744073709551616 := by
  rw [show 1099511627776 = 549755813888 + 549755813888 from rfl, itF_add, lcg_39, lcg_39]
  omega
def bitL (x : Nat) : Nat := x / 1099511627776 % 2
theorem bitL_mod (y : Nat) : bitL y = y % 2199023255552 / 1099511627776 := by unfold bitL; omega
theorem lcg_turn (x : Nat) : bitL (itF lcgF 1099511627776 x) ≠ bitL x := by
  rw [lcg_40]
  have h : (x * 8598326064743186433 + 6294630401738539008) % 18446744073709551616 % 2199023255552 = (x + 1099511627776) % 2199023255552 := by
    rw [Nat.mod_mod_of_dvd _ (show 2199023255552 ∣ 18446744073709551616 from ⟨8388608, by decide⟩)]
    rw [show x * 8598326064743186433 + 6294630401738539008 = (x + 1099511627776) + 2199023255552 * (x * 3910066 + 2862466) by omega, Nat.add_mul_mod_self_left]
  rw [bitL_mod, bitL_mod, h]
  omega
/-- sooner or later the next number's bit is 0 -/
theorem lcg_soon (x : Nat) : ∃ m, m ≤ 1099511627776 ∧ bitL (itF lcgF (m + 1) x) = 0 := by
  by_cases h : bitL (lcgF x) = 0
  · exact ⟨0, by omega, by rw [itF_1]; exact h⟩
  · refine ⟨1099511627776, Nat.le_refl _, ?_⟩
    have h1 := lcg_turn (lcgF x)
    rw [itF_s]
    unfold bitL at *
    omega
theorem least_of {P : Nat → Prop} (h : ∃ m, P m) : ∃ m, P m ∧ ∀ k, k < m → ¬ P k := by
  obtain ⟨m, hm⟩ := h
  induction m using Nat.strongRecOn with
  | ind m ih =>
    by_cases hk : ∃ k, k < m ∧ P k
    · obtain ⟨k, h1, h2⟩ := hk
      exact ih k h1 h2
    · exact ⟨m, hm, fun k h1 h2 => hk ⟨k, h1, h2⟩⟩
theorem lcg_least (x : Nat) : ∃ m, bitL (itF lcgF (m + 1) x) = 0 ∧ ∀ k, k < m → ¬ bitL (itF lcgF (k + 1) x) = 0 :=
  least_of (P := fun m => bitL (itF lcgF (m + 1) x) = 0) (let ⟨m, _, h⟩ := lcg_soon x; ⟨m, h⟩)
/-- how many numbers come ahead of it -/
theorem lcg_fn : ∃ g : Nat → Nat, (∀ x, g x ≤ 1099511627776) ∧ ∀ x, bitL (lcgF x) = 1 → g (lcgF x) + 1 = g x := by
  refine ⟨fun x => Classical.choose (lcg_least x), fun x => ?_, fun x h => ?_⟩
  · obtain ⟨m, h1, h2⟩ := lcg_soon x
    have h3 := (Classical.choose_spec (lcg_least x)).2
    by_cases h : Classical.choose (lcg_least x) ≤ m
    · exact Nat.le_trans h h1
    · exact absurd h2 (h3 m (by omega))
  · have h1 := Classical.choose_spec (lcg_least x)
    have h2 := Classical.choose_spec (lcg_least (lcgF x))
    show Classical.choose (lcg_least (lcgF x)) + 1 = Classical.choose (lcg_least x)
    generalize Classical.choose (lcg_least x) = n at h1 ⊢
    generalize Classical.choose (lcg_least (lcgF x)) = p at h2 ⊢
    cases n with
    | zero =>
      have h4 : bitL (lcgF x) = 0 := by have h5 := h1.1; rw [itF_1] at h5; exact h5
      omega
    | succ m =>
      by_cases ha : p < m
      · have h5 := h1.2 (p + 1) (by omega)
        rw [itF_s] at h5
        exact absurd h2.1 h5
      · by_cases hb : m < p
        · have h5 := h1.1
          rw [itF_s] at h5
          exact absurd h5 (h2.2 m hb)
        · omega
end Go.Proofs.YtgdcffbakjfacaaDoor
