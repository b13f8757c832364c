/- The text of a colour chart: its lines and digits, cut apart and read back. No condition. -/
import Derived.Lib.Split
set_option linter.unusedVariables false
namespace Go.Proofs.YtgdcffbakjfacaaDoor
open Go.Lib
def digB (x : Int) : UInt8 := UInt8.ofNat (48 + x.toNat)
def lineB (r : List Int) : List UInt8 := r.map digB
def txtB : List (List Int) → List UInt8
  | [] => []
  | r :: rs => lineB r ++ 10 :: txtB rs
def DigR (r : List Int) : Prop := ∀ x ∈ r, 1 ≤ x ∧ x ≤ 4
theorem digB_nat {x : Int} (h : 1 ≤ x ∧ x ≤ 4) : (digB x).toNat = 48 + x.toNat := by
  unfold digB
  simp
  omega
theorem digB_back {x : Int} (h : 1 ≤ x ∧ x ≤ 4) : ((digB x).toNat : Int) - 48 = x := by rw [digB_nat h]; omega
theorem digB_ne {x : Int} (h : 1 ≤ x ∧ x ≤ 4) : digB x ≠ 10 := fun e => by
  have h1 := digB_nat h
  rw [e] at h1
  have h2 : (10 : UInt8).toNat = 10 := rfl
  omega
theorem lineB_no {r : List Int} (h : DigR r) : ¬ (10 : UInt8) ∈ lineB r := fun hm => by
  obtain ⟨x, hx, e⟩ := List.mem_map.1 hm
  exact digB_ne (h x hx) e
theorem lineB_length (r : List Int) : (lineB r).length = r.length := by simp [lineB]
theorem lineB_at {r : List Int} {j : Nat} (h : j < r.length) : (lineB r)[j]'(by rw [lineB_length]; exact h) = digB r[j] := by simp [lineB]
theorem index_nl : ∀ (l rest : List UInt8), ¬ (10 : UInt8) ∈ l → index (l ++ 10 :: rest) [10] = (l.length : Int)
  | [], rest, _ => by simp [index, List.isPrefixOf]
  | b :: l, rest, h => by
    have h1 : b ≠ 10 := fun e => h (by simp [e])
    have h2 := index_nl l rest (fun e => h (by simp [e]))
    rw [List.cons_append, index, h2]
    have h3 : List.isPrefixOf [10] (b :: (l ++ 10 :: rest)) = false := by simp [List.isPrefixOf]; intro e; exact h1 e.symm
    rw [h3]
    simp only [Bool.false_eq_true, if_false]
    rw [if_neg (by simp)]
    simp
theorem index_none : index ([] : List UInt8) [10] = -1 := by simp [index]
theorem txt_count : ∀ (rows : List (List Int)), (∀ r ∈ rows, DigR r) → count (txtB rows) [10] = rows.length
  | [], _ => count_miss index_none
  | r :: rs, h => by
    have h1 := index_nl (lineB r) (txtB rs) (lineB_no (h r (by simp)))
    rw [txtB, count_hit (by simp) h1]
    have h2 : (lineB r ++ 10 :: txtB rs).drop ((lineB r).length + [(10 : UInt8)].length) = txtB rs := by
      rw [List.drop_append]
      simp
    rw [h2, txt_count rs (fun q hq => h q (by simp [hq])), List.length_cons]
    omega
theorem txt_split : ∀ (rows : List (List Int)), (∀ r ∈ rows, DigR r) → splitK [10] 0 rows.length (txtB rows) = rows.map lineB ++ [[]]
  | [], _ => rfl
  | r :: rs, h => by
    have h1 := index_nl (lineB r) (txtB rs) (lineB_no (h r (by simp)))
    have h2 : (lineB r ++ 10 :: txtB rs).drop ((lineB r).length + [(10 : UInt8)].length) = txtB rs := by
      rw [List.drop_append]
      simp
    rw [List.length_cons, splitK, txtB, h1]
    rw [if_neg (by simp)]
    rw [show ((lineB r).length : Int).toNat = (lineB r).length by simp, h2, txt_split rs (fun q hq => h q (by simp [hq]))]
    simp
theorem bytes_inj : ∀ {a b : List ByteArray}, a.map (·.data.toList) = b.map (·.data.toList) → a = b
  | [], [], _ => rfl
  | [], _ :: _, h => by simp at h
  | _ :: _, [], h => by simp at h
  | x :: xs, y :: ys, h => by
    simp only [List.map_cons, List.cons.injEq] at h
    have h1 : x = y := by
      cases x; cases y
      simp only [ByteArray.mk.injEq]
      exact Array.ext' h.1
    rw [h1, bytes_inj h.2]
/-- the text, cut at its line ends -/
theorem split_txt (s : ByteArray) (rows : List (List Int)) (hs : s.data.toList = txtB rows) (h : ∀ r ∈ rows, DigR r) : countB s ⟨#[10]⟩ = rows.length ∧ splitB ⟨#[10]⟩ 0 rows.length s = rows.map (fun r => (⟨(lineB r).toArray⟩ : ByteArray)) ++ [⟨#[]⟩] := by
  refine ⟨?_, bytes_inj ?_⟩
  · unfold countB
    rw [hs]
    exact txt_count rows h
  · rw [splitB_data, hs]
    rw [show (⟨#[10]⟩ : ByteArray).data.toList = [10] from rfl, txt_split rows h]
    simp
theorem txtB_append (rows : List (List Int)) (r : List Int) : txtB (rows ++ [r]) = txtB rows ++ (lineB r ++ [10]) := by
  induction rows with
  | nil => simp [txtB]
  | cons q qs ih => simp [txtB, ih]
theorem txtB_length (rows : List (List Int)) {L : Nat} (h : ∀ r ∈ rows, r.length ≤ L) : (txtB rows).length ≤ (L + 1) * rows.length := by
  induction rows with
  | nil => simp [txtB]
  | cons q qs ih =>
    have h1 := ih (fun r hr => h r (by simp [hr]))
    have h2 := h q (by simp)
    simp only [txtB, List.length_append, List.length_cons, lineB_length, Nat.mul_add]
    omega
end Go.Proofs.YtgdcffbakjfacaaDoor
