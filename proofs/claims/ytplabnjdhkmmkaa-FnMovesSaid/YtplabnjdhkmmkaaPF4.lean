/- Moves as data: slices of them; the laws' own helpers on them: equal, marked, held. No condition but room for the numbers. Contracts of ValidPlaces and of the reference's l21Places: whether a list are needles of columns. No condition. -/
import Derived.Test.YtplabnjdhkmmkaaPF2
import Derived.StillTailTactics
import Derived.Laws.AppendOwnNone
section
set_option linter.unusedSimpArgs false
set_option linter.unusedVariables false
set_option maxRecDepth 100000
namespace Go.Proofs.Ytplabnjdhkmmkaa
open Go.ChangeShapes Go.WideShapes Go.ChangeAt Go.RowKit
structure MoveM where
  fr : Int
  to : Int
def MoveM.cells (x : MoveM) : List Value := [.int .i64 x.fr, .int .i64 x.to]
def MoveM.ok (x : MoveM) : Prop := I64 x.fr ∧ I64 x.to
theorem MoveM.cells_length (x : MoveM) : x.cells.length = 2 := rfl
abbrev MoveM.val (x : MoveM) : Value := .agg #[.int .i64 x.fr, .int .i64 x.to]
/-- a slice that reads as the list xs -/
def Moves (w : World) (S : Nat → Prop) (v : Value) (xs : List MoveM) : Prop := Raw w S 2 v xs.length (xs.flatMap MoveM.cells) ∧ ∀ x ∈ xs, x.ok
section
variable {S T : Nat → Prop} {w w' : World} {v : Value} {xs : List MoveM}
theorem Moves.keep (h : Moves w S v xs) (g : Chg T w w') (hd : ∀ b, b < w.heap.size → S b → ¬ T b) : Moves w' S v xs := ⟨h.1.keep g hd, h.2⟩
theorem Moves.up (h : Moves w S v xs) (g : Up w w') : Moves w' S v xs := ⟨h.1.up g, h.2⟩
theorem Moves.mono (h : Moves w S v xs) (hs : ∀ b, b < w.heap.size → S b → T b) : Moves w T v xs := ⟨h.1.mono hs, h.2⟩
theorem Moves.shape (h : Moves w S v xs) : ∃ A c, v = .slice A xs.length c ∧ xs.length ≤ c ∧ c ≤ 9223372036854775807 ∧ (A = none → c = 0) := h.1.shape
theorem Moves.nil (w : World) (S : Nat → Prop) (c : Nat) (A : Option Addr) (hc : c ≤ 9223372036854775807) (hA : A = none → c = 0 := by simp) : Moves w S (.slice A 0 c) [] := ⟨Raw.nil w S 2 c A hc hA, by simp⟩
theorem Moves.at_ (h : Moves w S v xs) {i : Nat} (hi : i < xs.length) : ∃ b o c, v = .slice (some ⟨b, o, none⟩) xs.length c ∧ S b ∧ b < w.heap.size ∧
    ∀ j u, (xs[i].cells)[j]? = some u → w.cell? ⟨b, o + i * 2 + j, none⟩ = some u ∧ w.frozen? ⟨b, o + i * 2 + j, none⟩ = false := Raw.at_ MoveM.cells_length h.1 hi
end
def MMoves (w : World) (S : Nat → Prop) (v : Value) (xs : List MoveM) (k : Int) : Prop := Raw w S 2 v xs.length (markCells k (xs.length * 2))
theorem MMoves.keep {S T : Nat → Prop} {w w' : World} {v : Value} {xs : List MoveM} {k : Int} (h : MMoves w S v xs k) (g : Chg T w w') (hd : ∀ b, b < w.heap.size → S b → ¬ T b) : MMoves w' S v xs k := Raw.keep h g hd
theorem MMoves.up {S : Nat → Prop} {w w' : World} {v : Value} {xs : List MoveM} {k : Int} (h : MMoves w S v xs k) (g : Up w w') : MMoves w' S v xs k := Raw.up h g
/-- a slice of the call's own, from block base on -/
def OwnMoves (w : World) (base : Nat) (v : Value) (xs : List MoveM) : Prop :=
  w.ownsRow base 48 2 v xs.length (xs.flatMap MoveM.cells) ∧ ∀ x ∈ xs, x.ok
theorem OwnMoves.nil (w : World) (base : Nat) : OwnMoves w base (.slice none 0 0) [] := ⟨World.ownsRow_nil _ _ _ _, by simp⟩
theorem OwnMoves.made (w : World) (base : Nat) (hb : base ≤ w.heap.size) : OwnMoves (w.alloc (.cells #[] 48)) base (.slice (some ⟨w.heap.size, 0, none⟩) 0 0) [] :=
  ⟨World.ownsRow_made w _ 0 hb (by unfold Go.maxLen; omega) (by simp), by simp⟩
theorem OwnMoves.alloc {w : World} {base : Nat} {v : Value} {xs : List MoveM} (h : OwnMoves w base v xs) (o : Obj) : OwnMoves (w.alloc o) base v xs := ⟨h.1.alloc o, h.2⟩
theorem OwnMoves.kept {w w' : World} {base : Nat} {v : Value} {xs : List MoveM} {S : Nat → Prop} (h : OwnMoves w base v xs) (k : Chg S w w') (hS : ∀ g, v.ownBlock = some g → ¬ S g) : OwnMoves w' base v xs := by
  refine ⟨⟨h.1.1, ?_⟩, h.2⟩
  rcases h.1.2 with h2 | ⟨g, cap, cur, rfl, hg, hh, r⟩
  · exact Or.inl h2
  · exact Or.inr ⟨g, cap, cur, rfl, hg, (k.block g (Array.getElem?_eq_some_iff.1 hh).1 (hS g rfl)).trans hh, r⟩
theorem OwnMoves.up {w w' : World} {base : Nat} {v : Value} {xs : List MoveM} (h : OwnMoves w base v xs) (k : Up w w') : OwnMoves w' base v xs := h.kept k fun _ _ h => h
theorem OwnMoves.rd {w : World} {base : Nat} {v : Value} {xs : List MoveM} (h : OwnMoves w base v xs) : Moves w (New base w.heap.size) v xs := ⟨Raw.of_own h.1, h.2⟩
theorem OwnMoves.lt {w : World} {base : Nat} {v : Value} {xs : List MoveM} (h : OwnMoves w base v xs) {g : Nat} (hg : v.ownBlock = some g) : base ≤ g ∧ g < w.heap.size := h.1.lt g hg
theorem infoMoves : (Try.prog.info? 48).map (fun i => (i.zero, i.size, i.bytes)) = some (some (MoveM.mk 0 0).val, 2, 16) := by kernel_rfl
theorem cells_oneMoves (x : MoveM) : ∀ u ∈ x.cells, u.oneCell' = true := by
  intro u hu
  simp only [MoveM.cells, List.mem_cons, List.not_mem_nil, or_false] at hu
  rcases hu with rfl | rfl <;> rfl
theorem wp_appendMoves {w : World} {ops : Array Oper} {rest : List Oper} {o : Oper} {a : Act} {Q : Exit → Act → World → Prop} (hgd : o.guard = none) (s x : Operand)
    (ho : o.op = .call { callee := .builtin .append, args := #[s, x], argTypes := #[30, 30] })
    (base : Nat) (v : Value) (xs : List MoveM) (hs : a.eval s = v) (hown : OwnMoves w base v xs)
    (S : Nat → Prop) (u : Value) (ys : List MoveM) (hx : a.eval x = u) (hsrc : Moves w S u ys) (hlen : xs.length + ys.length ≤ 1099511627776) (hbase : base ≤ w.heap.size)
    (h : ∀ v' w', OwnMoves w' base v' (xs ++ ys) → w.grownBy w' v.ownBlock → Chg (fun k => base ≤ k) w w' → wpList Try.prog ops Q rest (a.put o.dst v') w') : wpList Try.prog ops Q (o :: rest) a w := by
  obtain ⟨i0, hi, hz0, hz1, hz2⟩ := info_parts infoMoves
  obtain ⟨⟨hl, A, c, rfl, hlc, hcm, hr, hnn⟩, hok⟩ := hsrc
  have hok' : ∀ y ∈ xs ++ ys, y.ok := fun y hy => (List.mem_append.1 hy).elim (hown.2 y) (hok y)
  cases A with
  | none =>
    have hy : ys = [] := by
      rcases Nat.eq_zero_or_pos ys.length with h0 | h0
      · exact List.eq_nil_of_length_eq_zero h0
      · obtain ⟨b, oo, h1, _⟩ := hr h0
        cases h1
    subst hy
    obtain rfl := hnn rfl
    refine wpList_append_own_none hgd s x 30 ho base 48 i0 2 Try.underlying30 hi v xs.length _ hs hown.1 hx ?_
    exact h v w (by simpa using hown) (World.grownBy.refl w _) (Chg.refl _ _)
  | some ad =>
    have hnews : ∀ j q, (ys.flatMap MoveM.cells)[j]? = some q → w.cell? (ad.add j) = some q := by
      intro j q hq
      obtain ⟨hj, he⟩ := List.getElem?_eq_some_iff.1 hq
      have hp : 0 < ys.length := by
        rcases Nat.eq_zero_or_pos ys.length with h0 | h0
        · rw [List.eq_nil_of_length_eq_zero h0] at hj; simp at hj
        · exact h0
      obtain ⟨b, oo, h1, _, _, hc⟩ := hr hp
      injection h1 with h1
      subst h1
      have := (hc j hj).1
      rw [he] at this
      rw [← this]
      unfold Addr.add
      by_cases h0 : j = 0 <;> simp [h0]
    refine wpList_append_own (P := Try.prog) w hgd s x 30 ho base 48 i0 _ 2 16 Try.underlying30 hi hz0 hz1 hz2 rfl (by decide) v xs.length _ hs hown.1 ad ys.length c (ys.flatMap MoveM.cells) hx hl hnews ?_ ?_ ?_ hbase ?_
    · intro q hq
      obtain ⟨y, _, hy⟩ := List.mem_flatMap.1 hq
      exact cells_oneMoves y q hy
    · unfold Go.maxLen; omega
    · omega
    · intro v' w' h2 h3 _
      exact h v' w' ⟨by simpa using h2, hok'⟩ h3 ((Chg.refl _ _).grown h3 fun k hk => .inl (hown.1.lt k hk).1)
theorem wp_append1Moves {w : World} {ops : Array Oper} {rest : List Oper} {o : Oper} {a : Act} {Q : Exit → Act → World → Prop} (hgd : o.guard = none) (s x : Operand)
    (ho : o.op = .call { callee := .builtin .append, args := #[s, x], argTypes := #[30, 30] })
    (base : Nat) (v : Value) (xs : List MoveM) (hs : a.eval s = v) (hown : OwnMoves w base v xs)
    (g : Nat) (y : MoveM) (hx : a.eval x = .slice (some ⟨g, 0, none⟩) 1 1) (hh : w.heap[g]? = some (.cells y.cells.toArray 48 (0, 0))) (hy : y.ok) (hlen : xs.length ≤ 1099511627775) (hbase : base ≤ w.heap.size)
    (h : ∀ v' w', OwnMoves w' base v' (xs ++ [y]) → w.grownBy w' v.ownBlock → Chg (fun k => base ≤ k) w w' → wpList Try.prog ops Q rest (a.put o.dst v') w') : wpList Try.prog ops Q (o :: rest) a w :=
  wp_appendMoves hgd s x ho base v xs hs hown (fun _ => True) _ [y] hx ⟨Raw.of_block hh (by simp) trivial rfl (by simp) (by omega), by simpa using hy⟩ (by simp; omega) hbase h
end Go.Proofs.Ytplabnjdhkmmkaa
end
section
set_option linter.unusedSimpArgs false
set_option linter.unusedVariables false
set_option maxRecDepth 100000
set_option maxHeartbeats 1000000
namespace Go.Proofs.Ytplabnjdhkmmkaa
open Go.ChangeShapes Go.WideShapes Go.ChangeAt Go.RowKit
/-- the first j numbers are needles in ascending order (twice: equal ones are let in) -/
def placesTo (twice : Bool) (xs : List Int) (j : Nat) : Prop :=
  ∀ i (_ : i < xs.length), i < j → 0 ≤ xs[i] ∧ xs[i] ≤ 23 ∧ (∀ (_ : 0 < i), xs[i - 1] < xs[i] ∨ (twice = true ∧ xs[i - 1] = xs[i]))
instance (twice : Bool) (xs : List Int) (j : Nat) : Decidable (placesTo twice xs j) := inferInstanceAs (Decidable (∀ i, ∀ (_ : i < xs.length), i < j → _))
def placesB (twice : Bool) (xs : List Int) : Bool := decide (placesTo twice xs xs.length ∧ xs.length ≤ 8)
theorem placesTo_zero (twice : Bool) (xs : List Int) : placesTo twice xs 0 := fun _ _ h => absurd h (by omega)
theorem placesTo_succ {twice : Bool} {xs : List Int} {j : Nat} (hp : placesTo twice xs j) {h : j < xs.length} (h1 : 0 ≤ xs[j] ∧ xs[j] ≤ 23) (h2 : ∀ (_ : 0 < j), xs[j - 1] < xs[j] ∨ (twice = true ∧ xs[j - 1] = xs[j])) :
    placesTo twice xs (j + 1) := fun i hi hij => by
  by_cases e : i = j
  · subst e; exact ⟨h1.1, h1.2, h2⟩
  · exact hp i hi (by omega)
theorem placesB_not {twice : Bool} {xs : List Int} {j : Nat} (h : j < xs.length) (hn : ¬ (0 ≤ xs[j] ∧ xs[j] ≤ 23 ∧ (∀ (_ : 0 < j), xs[j - 1] < xs[j] ∨ (twice = true ∧ xs[j - 1] = xs[j])))) : placesB twice xs = false :=
  decide_eq_false fun hh => hn (hh.1 j h h)
theorem placesB_all {twice : Bool} {xs : List Int} (h : placesTo twice xs xs.length) : placesB twice xs = decide ((xs.length : Int) ≤ 8) := by
  unfold placesB; simp [h]; omega
theorem isAt_yes (n : Int) (w : World) (h : 0 ≤ n ∧ n ≤ 23) :
    Calls Try.prog 31 #[.int .i64 n] w fun e w' => e = .returned (.bool true) ∧ w = w' := by
  go_enter Try.func31, Try.ntmps31
  go_wp2_with (first | (go_at_call 60; refine (within_yes _ _ _ _ ?_).mono ?_; (omega); rintro e w' ⟨rfl, rfl⟩))
  go_ret
  exact ⟨rfl, rfl⟩
theorem isAt_no (n : Int) (w : World) (h : n < 0 ∨ 23 < n) :
    Calls Try.prog 31 #[.int .i64 n] w fun e w' => e = .returned (.bool false) ∧ w = w' := by
  go_enter Try.func31, Try.ntmps31
  go_wp2_with (first | (go_at_call 60; refine (within_no _ _ _ _ ?_).mono ?_; (omega); rintro e w' ⟨rfl, rfl⟩))
  go_ret
  exact ⟨rfl, rfl⟩
theorem ValidPlaces_any (w : World) (S : Nat → Prop) (v : Value) (xs : List Int) (h : Ints w S v xs) :
    Calls Try.prog 28 #[v] w fun e w' => e = .returned (.bool (placesB false xs)) ∧ w = w' := by
  obtain ⟨A, c, rfl, hlc, hcm, -, hr, -⟩ := h
  go_enter Try.func28, Try.ntmps28
  go_wp2
  go_loop [3, 4, 7] (fun _ _ i => ∃ j : Nat, j ≤ xs.length ∧ i = .int .i64 j ∧ Hid (placesTo false xs j)) (fun _ _ i => xs.length - (intOf i).toNat)
  case atStart => exact ⟨0, by omega, rfl, placesTo_zero _ _⟩
  case round =>
    obtain ⟨j, hj, rfl, hp⟩ := hrel
    by_cases hlt : j < xs.length
    · obtain ⟨b, o, rfl, -, hbl, hc⟩ := hr (by omega)
      have hcj := (hc j hlt).1
      by_cases hin : 0 ≤ xs[j] ∧ xs[j] ≤ 23
      · by_cases h0 : 0 < j
        · obtain ⟨i, rfl⟩ : ∃ i, j = i + 1 := ⟨j - 1, by omega⟩
          have hci := (hc i (by omega)).1
          clear hc hr
          by_cases hle : xs[i + 1] ≤ xs[i]
          · have hB := Lib.hid (placesB_not (twice := false) hlt (by
              rintro ⟨_, _, h3⟩
              have := h3 (by omega)
              simp at this
              omega))
            go_wp2_with (first | (go_at_call 31; refine (isAt_yes _ _ ?_).mono ?_; (exact hin); rintro e w' ⟨rfl, rfl⟩))
            go_ret
            exact ⟨ret_bool hB.out.symm, rfl⟩
          · go_wp2_with (first | (go_at_call 31; refine (isAt_yes _ _ ?_).mono ?_; (exact hin); rintro e w' ⟨rfl, rfl⟩))
            go_round
            case rel => exact ⟨i + 2, by omega, by go_num, placesTo_succ (h := hlt) hp.out hin (fun _ => .inl (by simp; omega))⟩
            case measure => simp [intOf]; omega
        · obtain rfl : j = 0 := by omega
          rw [Nat.add_zero] at hcj
          clear hc hr
          go_wp2_with (first | (go_at_call 31; refine (isAt_yes _ _ ?_).mono ?_; (exact hin); rintro e w' ⟨rfl, rfl⟩))
          go_round
          case rel => exact ⟨1, by omega, by go_num, placesTo_succ (h := hlt) hp.out hin (fun h => absurd h (by omega))⟩
          case measure => simp [intOf]; omega
      · have hB := Lib.hid (placesB_not (twice := false) hlt (by rintro ⟨h1, h2, _⟩; exact hin ⟨h1, h2⟩))
        have hin' : xs[j] < 0 ∨ 23 < xs[j] := by omega
        clear hc hr
        go_wp2_with (first | (go_at_call 31; refine (isAt_no _ _ ?_).mono ?_; (exact hin'); rintro e w' ⟨rfl, rfl⟩))
        go_ret
        exact ⟨ret_bool hB.out.symm, rfl⟩
    · obtain rfl : j = xs.length := by omega
      have hB := Lib.hid (placesB_all hp.out)
      go_wp2
      go_ret
      exact ⟨ret_bool hB.out.symm, rfl⟩
theorem l21Places_any (w : World) (S : Nat → Prop) (v : Value) (xs : List Int) (tw : Bool) (h : Ints w S v xs) :
    Calls Try.prog 58 #[v, .bool tw] w fun e w' => e = .returned (.bool (placesB tw xs)) ∧ Drawn w w' := by
  obtain ⟨A, c, rfl, hlc, hcm, -, hr, -⟩ := h
  go_enter Try.func58, Try.ntmps58
  go_wp2
  go_loopw [5] (fun i wr => ∃ j : Nat, j ≤ xs.length ∧ i = .int .i64 j ∧ Hid (placesTo tw xs j) ∧ Drawn w wr) (fun i _ => xs.length - (intOf i).toNat)
  case atStart => exact ⟨0, by omega, rfl, placesTo_zero _ _, Drawn.refl _⟩
  case round =>
    obtain ⟨j, hj, rfl, hp, hd⟩ := hrel
    by_cases hlt : j < xs.length
    · obtain ⟨b, o, rfl, -, hbl, hc⟩ := hr (by omega)
      have hcj := hd.cell (hc j hlt).1
      by_cases hin : 0 ≤ xs[j] ∧ xs[j] ≤ 23
      · by_cases h0 : 0 < j
        · obtain ⟨i, rfl⟩ : ∃ i, j = i + 1 := ⟨j - 1, by omega⟩
          have hci := hd.cell (hc i (by omega)).1
          clear hc hr
          have hd0 : decide ((0 : Int) < (i : Int) + 1) = true := decide_eq_true (by omega)
          by_cases hlt2 : xs[i] < xs[i + 1]
          · have hB := Lib.hid (placesTo_succ (twice := tw) (h := hlt) hp.out hin (fun _ => .inl (by simpa using hlt2)))
            have hd1 : decide (xs[i + 1] < xs[i]) = false := decide_eq_false (by omega)
            have hd2 : (xs[i] == xs[i + 1]) = false := by simp; omega
            cases tw
            all_goals
              go_wp2
              go_quiet ((go_at_call 64; exact quiet_left (l00In_yes _ _ _ _ hin)))
              go_wp2
              go_roundw
              case rel => exact ⟨i + 2, by omega, by go_num, hB, hd.drewN _⟩
              case measure => simp [intOf]; omega
          · by_cases heq : xs[i] = xs[i + 1]
            · have hd1 : decide (xs[i + 1] < xs[i]) = false := decide_eq_false (by omega)
              have hd2 : (xs[i] == xs[i + 1]) = true := by simpa using heq
              cases tw
              · have hB := Lib.hid (placesB_not (twice := false) hlt (by
                  rintro ⟨_, _, h3⟩
                  have := h3 (by omega)
                  simp at this
                  omega))
                clear heq
                go_wp2
                go_quiet ((go_at_call 64; exact quiet_left (l00In_yes _ _ _ _ hin)))
                go_wp2
                go_ret
                exact ⟨ret_bool hB.out.symm, hd.drewN _⟩
              · have hB := Lib.hid (placesTo_succ (twice := true) (h := hlt) hp.out hin (fun _ => .inr ⟨rfl, by simpa using heq⟩))
                clear heq
                go_wp2
                go_quiet ((go_at_call 64; exact quiet_left (l00In_yes _ _ _ _ hin)))
                go_wp2
                go_roundw
                case rel => exact ⟨i + 2, by omega, by go_num, hB, hd.drewN _⟩
                case measure => simp [intOf]; omega
            · have hd1 : decide (xs[i + 1] < xs[i]) = true := decide_eq_true (by omega)
              have hB := Lib.hid (placesB_not (twice := tw) hlt (by
                rintro ⟨_, _, h3⟩
                have := h3 (by omega)
                simp at this
                omega))
              clear heq
              go_wp2
              go_quiet ((go_at_call 64; exact quiet_left (l00In_yes _ _ _ _ hin)))
              go_wp2
              go_ret
              exact ⟨ret_bool hB.out.symm, hd.drewN _⟩
        · obtain rfl : j = 0 := by omega
          rw [Nat.add_zero] at hcj
          have hB := Lib.hid (placesTo_succ (twice := tw) (h := hlt) hp.out hin (fun h => absurd h (by omega)))
          clear hc hr
          go_wp2
          go_quiet ((go_at_call 64; exact quiet_left (l00In_yes _ _ _ _ hin)))
          go_wp2
          go_roundw
          case rel => exact ⟨1, by omega, by go_num, hB, hd.drewN _⟩
          case measure => simp [intOf]; omega
      · have hB := Lib.hid (placesB_not (twice := tw) hlt (by rintro ⟨h1, h2, _⟩; exact hin ⟨h1, h2⟩))
        have hin' : xs[j] < 0 ∨ 23 < xs[j] := by omega
        clear hc hr
        go_wp2
        go_quiet ((go_at_call 64; exact quiet_left (l00In_no _ _ _ _ hin')))
        go_wp2
        go_ret
        exact ⟨ret_bool hB.out.symm, hd.drewN _⟩
    · obtain rfl : j = xs.length := by omega
      have hB := Lib.hid (placesB_all hp.out)
      go_wp2
      go_ret
      exact ⟨ret_bool hB.out.symm, hd⟩
end Go.Proofs.Ytplabnjdhkmmkaa
end
