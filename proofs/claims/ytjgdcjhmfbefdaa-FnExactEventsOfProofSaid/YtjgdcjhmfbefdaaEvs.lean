/- Events as data: slices of them; the laws' own helpers on them: equal, marked, held. No condition but room for the numbers. -/
import Derived.Test.YtjgdcjhmfbefdaaRec
import Derived.StillTailTactics
import Derived.Laws.AppendOwnNone
namespace Go.Proofs.Ytjgdcjhmfbefdaa
open Go.ChangeShapes Go.WideShapes Go.ChangeAt Go.RowKit
structure EvM where
  kind : Int
  place : Int
  count : Int
  bed : Int
  car : Int
  dir : Int
def EvM.cells (x : EvM) : List Value := [.int .i64 x.kind, .int .i64 x.place, .int .i64 x.count, .int .i64 x.bed, .int .i64 x.car, .int .i64 x.dir]
def EvM.ok (x : EvM) : Prop := I64 x.kind ∧ I64 x.place ∧ I64 x.count ∧ I64 x.bed ∧ I64 x.car ∧ I64 x.dir
theorem EvM.cells_length (x : EvM) : x.cells.length = 6 := rfl
abbrev EvM.val (x : EvM) : Value := .agg #[.int .i64 x.kind, .int .i64 x.place, .int .i64 x.count, .int .i64 x.bed, .int .i64 x.car, .int .i64 x.dir]
/-- a slice that reads as the list xs -/
def Evs (w : World) (S : Nat → Prop) (v : Value) (xs : List EvM) : Prop := Raw w S 6 v xs.length (xs.flatMap EvM.cells) ∧ ∀ x ∈ xs, x.ok
section
variable {S T : Nat → Prop} {w w' : World} {v : Value} {xs : List EvM}
theorem Evs.keep (h : Evs w S v xs) (g : Chg T w w') (hd : ∀ b, b < w.heap.size → S b → ¬ T b) : Evs w' S v xs := ⟨h.1.keep g hd, h.2⟩
theorem Evs.up (h : Evs w S v xs) (g : Up w w') : Evs w' S v xs := ⟨h.1.up g, h.2⟩
theorem Evs.alloc' (h : Evs w S v xs) (o : Obj) : Evs (w.alloc o) S v xs := h.up ((Chg.refl _ _).alloc o)
theorem Evs.mono (h : Evs w S v xs) (hs : ∀ b, b < w.heap.size → S b → T b) : Evs w T v xs := ⟨h.1.mono hs, h.2⟩
theorem Evs.shape (h : Evs w S v xs) : ∃ A c, v = .slice A xs.length c ∧ xs.length ≤ c ∧ c ≤ 9223372036854775807 ∧ (A = none → c = 0) := h.1.shape
theorem Evs.nil (w : World) (S : Nat → Prop) (c : Nat) (A : Option Addr) (hc : c ≤ 9223372036854775807) (hA : A = none → c = 0 := by simp) : Evs w S (.slice A 0 c) [] := ⟨Raw.nil w S 6 c A hc hA, by simp⟩
theorem Evs.at_ (h : Evs w S v xs) {i : Nat} (hi : i < xs.length) : ∃ b o c, v = .slice (some ⟨b, o, none⟩) xs.length c ∧ S b ∧ b < w.heap.size ∧
    ∀ j u, (xs[i].cells)[j]? = some u → w.cell? ⟨b, o + i * 6 + j, none⟩ = some u ∧ w.frozen? ⟨b, o + i * 6 + j, none⟩ = false := Raw.at_ EvM.cells_length h.1 hi
end
theorem eqEvent_same (w : World) (x : EvM) : Calls Try.prog 87 #[x.val, x.val] w fun e w' => e = .returned (.bool true) ∧ Up w w' := by
  go_enter Try.func87, Try.ntmps87
  go_wp2
  go_ret
  exact ⟨rfl, by repeat (first | exact Chg.refl _ _ | apply Chg.drew | apply Chg.drewN | refine Chg.alloc ?_ _)⟩
set_option maxRecDepth 100000 in
set_option maxHeartbeats 2000000 in
theorem eqEvs (w : World) (S T : Nat → Prop) (v u : Value) (xs : List EvM) (h : Evs w S v xs) (h2 : Evs w T u xs) :
    Calls Try.prog 22 #[v, u] w fun e w' => e = .returned (.bool true) ∧ Up w w' := by
  obtain ⟨A, c, rfl, hlc, hcm, -⟩ := h.shape
  obtain ⟨A2, c2, rfl, hlc2, hcm2, -⟩ := h2.shape
  have hz : ((xs.length : Int) != xs.length) = false := by simp
  have H := Lib.hid h
  have H2 := Lib.hid h2
  clear h h2
  go_enter Try.func22, Try.ntmps22
  go_wp2
  go_loopw [5] (fun i wr => ∃ j : Nat, j ≤ xs.length ∧ i = .int .i64 j ∧ Hid (Up w wr)) (fun i _ => xs.length - (intOf i).toNat)
  case atStart => exact ⟨0, by omega, rfl, Chg.refl _ _⟩
  case round =>
    obtain ⟨j, hj, rfl, hg⟩ := hrel
    by_cases hlt : j < xs.length
    · obtain ⟨b, o, c', he, -, -, hc⟩ := (H.out.up hg.out).at_ hlt
      obtain ⟨b2, o2, c2', he2, -, -, hc2⟩ := (H2.out.up hg.out).at_ hlt
      obtain ⟨rfl, rfl⟩ : A = some ⟨b, o, none⟩ ∧ c = c' := by simpa using he
      obtain ⟨rfl, rfl⟩ : A2 = some ⟨b2, o2, none⟩ ∧ c2 = c2' := by simpa using he2
      have f0 := (hc 0 _ rfl).1
      have f1 := (hc 1 _ rfl).1
      have f2 := (hc 2 _ rfl).1
      have f3 := (hc 3 _ rfl).1
      have f4 := (hc 4 _ rfl).1
      have f5 := (hc 5 _ rfl).1
      have g0 := (hc2 0 _ rfl).1
      have g1 := (hc2 1 _ rfl).1
      have g2 := (hc2 2 _ rfl).1
      have g3 := (hc2 3 _ rfl).1
      have g4 := (hc2 4 _ rfl).1
      have g5 := (hc2 5 _ rfl).1
      rw [Nat.add_zero] at f0 g0
      clear hc hc2 he he2
      go_wp2
      go_still_tail 8, (by kernel_rfl)
      go_wp2_with fail
      refine (eqEvent_same _ xs[j]).mono ?_
      rintro e w1 ⟨rfl, k1⟩
      have K1 := Lib.hid k1
      clear k1
      go_wp2
      go_roundw
      case rel => exact ⟨j + 1, by omega, by go_num, (hg.out.drew).trans K1.out⟩
      case measure => simp [intOf]; omega
    · go_wp2
      go_ret
      exact ⟨rfl, hg.out⟩
def MEvs (w : World) (S : Nat → Prop) (v : Value) (xs : List EvM) (k : Int) : Prop := Raw w S 6 v xs.length (markCells k (xs.length * 6))
theorem MEvs.keep {S T : Nat → Prop} {w w' : World} {v : Value} {xs : List EvM} {k : Int} (h : MEvs w S v xs k) (g : Chg T w w') (hd : ∀ b, b < w.heap.size → S b → ¬ T b) : MEvs w' S v xs k := Raw.keep h g hd
theorem MEvs.up {S : Nat → Prop} {w w' : World} {v : Value} {xs : List EvM} {k : Int} (h : MEvs w S v xs k) (g : Up w w') : MEvs w' S v xs k := Raw.up h g
def cntEvs (xs : List EvM) : Nat := xs.length * 6
set_option maxRecDepth 100000 in
set_option maxHeartbeats 2000000 in
theorem rawmarkEventS (w : World) (S : Nat → Prop) (v : Value) (n : Nat) (cs : List Value) (k : Int) (hk : 0 ≤ k) (hb : k + (n * 6 : Nat) ≤ 4611686018427387904)
    (h : Raw w S 6 v n cs) :
    Calls Try.prog 24 #[v, .int .i64 k] w fun e w' => e = .returned (.int .i64 (k + (n * 6 : Nat))) ∧ Chg S w w' ∧ Raw w' S 6 v n (markCells k (n * 6)) := by
  obtain ⟨hl, A, c, rfl, hlc, hcm, hr, hnn⟩ := h
  by_cases hz : 0 < n
  · obtain ⟨b, o, rfl, hS, hbl, hc⟩ := hr hz
    have Hc := Lib.hid hc
    have HS := Lib.hid hS
    have Hl := Lib.hid hl
    clear hr hc hS hl
    go_enter Try.func24, Try.ntmps24
    go_wp2
    go_loopw [1, 5] (fun q i wr => ∃ j : Nat, j ≤ n ∧ i = .int .i64 j ∧ q = .int .i64 (k + 6 * j) ∧ Hid (Chg S w wr) ∧ Hid (Marking wr b o 6 n j k)) (fun _ i _ => n - (intOf i).toNat)
    case atStart => exact ⟨0, by omega, rfl, by simp, Chg.refl _ _, Marking.start k Hl.out Hc.out⟩
    case round =>
      obtain ⟨j, hj, rfl, rfl, hg, hcs⟩ := hrel
      by_cases hlt : j < n
      · obtain ⟨x0, f0, q0⟩ := hcs.out.cell hlt 0 (by omega)
        obtain ⟨x1, f1, q1⟩ := hcs.out.cell hlt 1 (by omega)
        obtain ⟨x2, f2, q2⟩ := hcs.out.cell hlt 2 (by omega)
        obtain ⟨x3, f3, q3⟩ := hcs.out.cell hlt 3 (by omega)
        obtain ⟨x4, f4, q4⟩ := hcs.out.cell hlt 4 (by omega)
        obtain ⟨x5, f5, q5⟩ := hcs.out.cell hlt 5 (by omega)
        rw [Nat.add_zero] at f0 q0
        go_wp2
        go_roundw
        case rel =>
          clear f0 f1 f2 f3 f4 f5 q0 q1 q2 q3 q4 q5
          refine ⟨j + 1, by omega, by go_num, by simp only [Value.int.injEq, true_and]; omega, Chg.setCells HS.out [_, _, _, _, _, _] (o + j * 6) hg.out, Marking.next hcs.out hlt (vs := [_, _, _, _, _, _]) ?_⟩
          simp only [List.range, List.range.loop, List.map_cons, List.map_nil, List.cons.injEq, Value.int.injEq, true_and, and_true]
          omega
        case measure => simp [intOf]; omega
      · obtain rfl : j = n := by omega
        go_wp2
        go_ret
        exact ⟨ret_int (by omega), hg.out, Marking.done hcs.out HS.out (Nat.lt_of_lt_of_le hbl hg.out.size) hlc hcm⟩
  · obtain rfl : n = 0 := by omega
    clear hr hl
    go_enter Try.func24, Try.ntmps24
    go_wp2
    go_loop [1, 5] (fun q i => i = .int .i64 0 ∧ q = .int .i64 k) (fun _ _ => 0)
    case atStart => exact ⟨rfl, rfl⟩
    case round =>
      obtain ⟨rfl, rfl⟩ := hrel
      go_wp2
      go_ret
      exact ⟨by simp, Chg.refl _ _, Raw.nil _ _ _ _ _ hcm hnn⟩
theorem markEvs (w : World) (S : Nat → Prop) (v : Value) (xs : List EvM) (k : Int) (hk : 0 ≤ k) (hb : k + cntEvs xs ≤ 4611686018427387904) (h : Evs w S v xs) :
    Calls Try.prog 24 #[v, .int .i64 k] w fun e w' => e = .returned (.int .i64 (k + cntEvs xs)) ∧ Chg S w w' ∧ MEvs w' S v xs k :=
  rawmarkEventS w S v xs.length _ k hk hb h.1
set_option maxRecDepth 100000 in
set_option maxHeartbeats 2000000 in
theorem rawheldEventS (w : World) (S : Nat → Prop) (v : Value) (n : Nat) (k : Int) (hk : 0 ≤ k) (hb : k + (n * 6 : Nat) ≤ 4611686018427387904)
    (h : Raw w S 6 v n (markCells k (n * 6))) :
    Calls Try.prog 25 #[v, .int .i64 k] w fun e w' => e = .returned (.int .i64 (k + (n * 6 : Nat))) ∧ w = w' := by
  obtain ⟨A, c, rfl, hlc, hcm, -⟩ := h.shape
  have H := Lib.hid h
  clear h
  go_enter Try.func25, Try.ntmps25
  go_wp2
  go_loop [1, 5] (fun q i => ∃ j : Nat, j ≤ n ∧ i = .int .i64 j ∧ q = .int .i64 (k + 6 * j)) (fun _ i => n - (intOf i).toNat)
  case atStart => exact ⟨0, by omega, rfl, by simp⟩
  case round =>
    obtain ⟨j, hj, rfl, rfl⟩ := hrel
    by_cases hlt : j < n
    · obtain ⟨b, o, c', he, hc⟩ := H.out.mark hlt
      obtain ⟨rfl, rfl⟩ : A = some ⟨b, o, none⟩ ∧ c = c' := by simpa using he
      have f0 := hc 0 (by omega) (k + 6 * j) (by omega)
      have f1 := hc 1 (by omega) (k + 6 * j + 1) (by omega)
      have f2 := hc 2 (by omega) (k + 6 * j + 1 + 1) (by omega)
      have f3 := hc 3 (by omega) (k + 6 * j + 1 + 1 + 1) (by omega)
      have f4 := hc 4 (by omega) (k + 6 * j + 1 + 1 + 1 + 1) (by omega)
      have f5 := hc 5 (by omega) (k + 6 * j + 1 + 1 + 1 + 1 + 1) (by omega)
      rw [Nat.add_zero] at f0
      clear hc he
      go_wp2
      go_round
      case rel => exact ⟨j + 1, by omega, by go_num, by simp only [Value.int.injEq, true_and]; omega⟩
      case measure => simp [intOf]; omega
    · obtain rfl : j = n := by omega
      go_wp2
      go_ret
      exact ⟨ret_int (by omega), rfl⟩
theorem heldEvs (w : World) (S : Nat → Prop) (v : Value) (xs : List EvM) (k : Int) (hk : 0 ≤ k) (hb : k + cntEvs xs ≤ 4611686018427387904) (h : MEvs w S v xs k) :
    Calls Try.prog 25 #[v, .int .i64 k] w fun e w' => e = .returned (.int .i64 (k + cntEvs xs)) ∧ Up w w' :=
  (rawheldEventS w S v xs.length k hk hb h).mono fun _ _ ⟨he, hw⟩ => ⟨he, hw ▸ Chg.refl _ _⟩
/-- a slice of the call's own, from block base on -/
def OwnEvs (w : World) (base : Nat) (v : Value) (xs : List EvM) : Prop :=
  w.ownsRow base 106 6 v xs.length (xs.flatMap EvM.cells) ∧ ∀ x ∈ xs, x.ok
theorem OwnEvs.nil (w : World) (base : Nat) : OwnEvs w base (.slice none 0 0) [] := ⟨World.ownsRow_nil _ _ _ _, by simp⟩
theorem OwnEvs.made (w : World) (base : Nat) (hb : base ≤ w.heap.size) : OwnEvs (w.alloc (.cells #[] 106)) base (.slice (some ⟨w.heap.size, 0, none⟩) 0 0) [] :=
  ⟨World.ownsRow_made w _ 0 hb (by unfold Go.maxLen; omega) (by simp), by simp⟩
theorem OwnEvs.alloc {w : World} {base : Nat} {v : Value} {xs : List EvM} (h : OwnEvs w base v xs) (o : Obj) : OwnEvs (w.alloc o) base v xs := ⟨h.1.alloc o, h.2⟩
theorem OwnEvs.kept {w w' : World} {base : Nat} {v : Value} {xs : List EvM} {S : Nat → Prop} (h : OwnEvs w base v xs) (k : Chg S w w') (hS : ∀ g, v.ownBlock = some g → ¬ S g) : OwnEvs w' base v xs := by
  refine ⟨⟨h.1.1, ?_⟩, h.2⟩
  rcases h.1.2 with h2 | ⟨g, cap, cur, rfl, hg, hh, r⟩
  · exact Or.inl h2
  · exact Or.inr ⟨g, cap, cur, rfl, hg, (k.block g (Array.getElem?_eq_some_iff.1 hh).1 (hS g rfl)).trans hh, r⟩
theorem OwnEvs.up {w w' : World} {base : Nat} {v : Value} {xs : List EvM} (h : OwnEvs w base v xs) (k : Up w w') : OwnEvs w' base v xs := h.kept k fun _ _ h => h
theorem OwnEvs.rd {w : World} {base : Nat} {v : Value} {xs : List EvM} (h : OwnEvs w base v xs) : Evs w (New base w.heap.size) v xs := ⟨Raw.of_own h.1, h.2⟩
theorem OwnEvs.lt {w : World} {base : Nat} {v : Value} {xs : List EvM} (h : OwnEvs w base v xs) {g : Nat} (hg : v.ownBlock = some g) : base ≤ g ∧ g < w.heap.size := h.1.lt g hg
theorem infoEvs : (Try.prog.info? 106).map (fun i => (i.zero, i.size, i.bytes)) = some (some (EvM.mk 0 0 0 0 0 0).val, 6, 48) := by kernel_rfl
theorem cells_oneEvs (x : EvM) : ∀ u ∈ x.cells, u.oneCell' = true := by
  intro u hu
  simp only [EvM.cells, List.mem_cons, List.not_mem_nil, or_false] at hu
  rcases hu with rfl | rfl | rfl | rfl | rfl | rfl <;> rfl
set_option maxRecDepth 100000 in
theorem wp_appendEvs {w : World} {ops : Array Oper} {rest : List Oper} {o : Oper} {a : Act} {Q : Exit → Act → World → Prop} (hgd : o.guard = none) (s x : Operand)
    (ho : o.op = .call { callee := .builtin .append, args := #[s, x], argTypes := #[49, 49] })
    (base : Nat) (v : Value) (xs : List EvM) (hs : a.eval s = v) (hown : OwnEvs w base v xs)
    (S : Nat → Prop) (u : Value) (ys : List EvM) (hx : a.eval x = u) (hsrc : Evs w S u ys) (hlen : xs.length + ys.length ≤ 1099511627776) (hbase : base ≤ w.heap.size)
    (h : ∀ v' w', OwnEvs w' base v' (xs ++ ys) → w.grownBy w' v.ownBlock → Chg (fun k => base ≤ k) w w' → wpList Try.prog ops Q rest (a.put o.dst v') w') : wpList Try.prog ops Q (o :: rest) a w := by
  obtain ⟨i0, hi, hz0, hz1, hz2⟩ := info_parts infoEvs
  obtain ⟨⟨hl, A, c, rfl, hlc, hcm, hr, hnn⟩, hok⟩ := hsrc
  have hok' : ∀ y ∈ xs ++ ys, y.ok := fun y hy => (List.mem_append.1 hy).elim (hown.2 y) (hok y)
  cases A with
  | none =>
    have hy : ys = [] := by
      rcases Nat.eq_zero_or_pos ys.length with h0 | h0
      · exact List.eq_nil_of_length_eq_zero h0
      · obtain ⟨b, oo, h1, _⟩ := hr h0
        cases h1
    subst hy
    obtain rfl := hnn rfl
    refine wpList_append_own_none hgd s x 49 ho base 106 i0 6 Try.underlying49 hi v xs.length _ hs hown.1 hx ?_
    exact h v w (by simpa using hown) (World.grownBy.refl w _) (Chg.refl _ _)
  | some ad =>
    have hnews : ∀ j q, (ys.flatMap EvM.cells)[j]? = some q → w.cell? (ad.add j) = some q := by
      intro j q hq
      obtain ⟨hj, he⟩ := List.getElem?_eq_some_iff.1 hq
      have hp : 0 < ys.length := by
        rcases Nat.eq_zero_or_pos ys.length with h0 | h0
        · rw [List.eq_nil_of_length_eq_zero h0] at hj; simp at hj
        · exact h0
      obtain ⟨b, oo, h1, _, _, hc⟩ := hr hp
      injection h1 with h1
      subst h1
      have := (hc j hj).1
      rw [he] at this
      rw [← this]
      unfold Addr.add
      by_cases h0 : j = 0 <;> simp [h0]
    refine wpList_append_own (P := Try.prog) w hgd s x 49 ho base 106 i0 _ 6 48 Try.underlying49 hi hz0 hz1 hz2 rfl (by decide) v xs.length _ hs hown.1 ad ys.length c (ys.flatMap EvM.cells) hx hl hnews ?_ ?_ ?_ hbase ?_
    · intro q hq
      obtain ⟨y, _, hy⟩ := List.mem_flatMap.1 hq
      exact cells_oneEvs y q hy
    · unfold Go.maxLen; omega
    · omega
    · intro v' w' h2 h3 _
      exact h v' w' ⟨by simpa using h2, hok'⟩ h3 ((Chg.refl _ _).grown h3 fun k hk => .inl (hown.1.lt k hk).1)
set_option maxRecDepth 100000 in
/-- the same at a step of a region that draws its order -/
theorem step_appendEvs {w : World} {ops : Array Oper} {o : Oper} {a : Act} {K : Act → World → Prop} {Q : Exit → Act → World → Prop} {E : Prop} (hgd : o.guard = none) (s x : Operand)
    (ho : o.op = .call { callee := .builtin .append, args := #[s, x], argTypes := #[49, 49] })
    (base : Nat) (v : Value) (xs : List EvM) (hs : a.eval s = v) (hown : OwnEvs w base v xs)
    (S : Nat → Prop) (u : Value) (ys : List EvM) (hx : a.eval x = u) (hsrc : Evs w S u ys) (hlen : xs.length + ys.length ≤ 1099511627776) (hbase : base ≤ w.heap.size)
    (h : ∀ v' w', OwnEvs w' base v' (xs ++ ys) → w.grownBy w' v.ownBlock → Chg (fun k => base ≤ k) w w' → K (a.put o.dst v') w') :
    if Region.wanted o (yielded ops a.tmps) = true then Oper.wp Try.prog o a w K Q else E := by
  have hw : Region.wanted o (yielded ops a.tmps) = true := by simp [Region.wanted, hgd]
  rw [if_pos hw]
  obtain ⟨i0, hi, hz0, hz1, hz2⟩ := info_parts infoEvs
  obtain ⟨⟨hl, A, c, rfl, hlc, hcm, hr, hnn⟩, hok⟩ := hsrc
  have hok' : ∀ y ∈ xs ++ ys, y.ok := fun y hy => (List.mem_append.1 hy).elim (hown.2 y) (hok y)
  cases A with
  | none =>
    have hy : ys = [] := by
      rcases Nat.eq_zero_or_pos ys.length with h0 | h0
      · exact List.eq_nil_of_length_eq_zero h0
      · obtain ⟨b, oo, h1, _⟩ := hr h0
        cases h1
    subst hy
    obtain rfl := hnn rfl
    have hrun := run_append_owned_none (P := Try.prog) (w := w) base 49 o.type 106 i0 6 Try.underlying49 hi v xs.length _ hown.1
    have hK := h v w (by simpa using hown) (World.grownBy.refl w _) (Chg.refl _ _)
    unfold Oper.wp
    simp [execOp, ho, resolve, invoke, builtin, hs, hx, hrun, Result.andThen]
    exact hK
  | some ad =>
    have hnews : ∀ j q, (ys.flatMap EvM.cells)[j]? = some q → w.cell? (ad.add j) = some q := by
      intro j q hq
      obtain ⟨hj, he⟩ := List.getElem?_eq_some_iff.1 hq
      have hp : 0 < ys.length := by
        rcases Nat.eq_zero_or_pos ys.length with h0 | h0
        · rw [List.eq_nil_of_length_eq_zero h0] at hj; simp at hj
        · exact h0
      obtain ⟨b, oo, h1, _, _, hc⟩ := hr hp
      injection h1 with h1
      subst h1
      have := (hc j hj).1
      rw [he] at this
      rw [← this]
      unfold Addr.add
      by_cases h0 : j = 0 <;> simp [h0]
    refine wp_append_own (P := Try.prog) w s x 49 ho base 106 i0 _ 6 48 Try.underlying49 hi hz0 hz1 hz2 rfl (by decide) v xs.length _ hs hown.1 ad ys.length c (ys.flatMap EvM.cells) hx hl hnews ?_ ?_ ?_ hbase ?_
    · intro q hq
      obtain ⟨y, _, hy⟩ := List.mem_flatMap.1 hq
      exact cells_oneEvs y q hy
    · unfold Go.maxLen; omega
    · omega
    · intro v' w' h2 h3 _
      exact h v' w' ⟨by simpa using h2, hok'⟩ h3 ((Chg.refl _ _).grown h3 fun k hk => .inl (hown.1.lt k hk).1)
theorem wp_append1Evs {w : World} {ops : Array Oper} {rest : List Oper} {o : Oper} {a : Act} {Q : Exit → Act → World → Prop} (hgd : o.guard = none) (s x : Operand)
    (ho : o.op = .call { callee := .builtin .append, args := #[s, x], argTypes := #[49, 49] })
    (base : Nat) (v : Value) (xs : List EvM) (hs : a.eval s = v) (hown : OwnEvs w base v xs)
    (g : Nat) (y : EvM) (hx : a.eval x = .slice (some ⟨g, 0, none⟩) 1 1) (hh : w.heap[g]? = some (.cells y.cells.toArray 106 (0, 0))) (hy : y.ok) (hlen : xs.length ≤ 1099511627775) (hbase : base ≤ w.heap.size)
    (h : ∀ v' w', OwnEvs w' base v' (xs ++ [y]) → w.grownBy w' v.ownBlock → Chg (fun k => base ≤ k) w w' → wpList Try.prog ops Q rest (a.put o.dst v') w') : wpList Try.prog ops Q (o :: rest) a w :=
  wp_appendEvs hgd s x ho base v xs hs hown (fun _ => True) _ [y] hx ⟨Raw.of_block hh (by simp) trivial rfl (by simp) (by omega), by simpa using hy⟩ (by simp; omega) hbase h
end Go.Proofs.Ytjgdcjhmfbefdaa
