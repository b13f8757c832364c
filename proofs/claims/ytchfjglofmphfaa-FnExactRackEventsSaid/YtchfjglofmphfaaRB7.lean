/- Plain words for machines: when one is valid. No condition. Contracts of the letters with which two blocks of strands change places. Conditions: few strands. Events as data: slices of them; the laws' own helpers on them: equal, marked, held. No condition but room for the numbers. Plain words: the events of racking a machine. No condition. Slices of needles as data: reading, appending. No condition. Plain words: the order of a machine's needles while the rack takes a step. No condition. The laws' helpers on nested slices. No condition. The laws' own copies of slices of events, and their sizes. No condition but room. -/
import Derived.Test.YtchfjglofmphfaaRB6
import Derived.Test.YtchfjglofmphfaaRB1
import Derived.StillTailTactics
import Derived.Laws.AppendOwnNone
import Derived.Test.YtchfjglofmphfaaRB5
import Derived.Test.YtchfjglofmphfaaRB2
section
set_option linter.unusedSimpArgs false
set_option linter.unusedVariables false
namespace Go.Proofs.Ytchfjglofmphfaa
open Go.ChangeShapes Go.WideShapes Go.ChangeAt Go.RowKit
/-- different numbers from 0 to n - 1 -/
def apartB (xs : List Int) (n : Int) : Bool := decide (xs.Nodup ∧ ∀ x ∈ xs, 0 ≤ x ∧ x < n)
theorem apart_nil (n : Int) : apartB [] n = true := by simp [apartB]
theorem apart_yes {ys : List Int} {x n : Int} (h : apartB ys n = true) (hx : 0 ≤ x ∧ x < n) (hm : x ∉ ys) : apartB (ys ++ [x]) n = true := by
  have h := of_decide_eq_true h
  refine decide_eq_true ⟨?_, fun y hy => ?_⟩
  · rw [List.nodup_append]
    refine ⟨h.1, by simp, fun a ha b hb => ?_⟩
    simp only [List.mem_singleton] at hb
    subst hb
    exact fun e => hm (e ▸ ha)
  · rcases List.mem_append.1 hy with k | k
    · exact h.2 y k
    · simp only [List.mem_singleton] at k
      subst k
      exact hx
theorem apart_rng {ys zs : List Int} {x n : Int} (hx : ¬ (0 ≤ x ∧ x < n)) : apartB (ys ++ x :: zs) n = false :=
  decide_eq_false fun h => hx (h.2 x (by simp))
theorem apart_mem {ys zs : List Int} {x n : Int} (hm : x ∈ ys) : apartB (ys ++ x :: zs) n = false :=
  decide_eq_false fun h => (List.nodup_append.1 h.1).2.2 x hm x (by simp) rfl
theorem split_at {xs : List Int} {i : Nat} (h : i < xs.length) : xs = xs.take i ++ xs[i] :: xs.drop (i + 1) := by
  rw [List.getElem_cons_drop, List.take_append_drop]
theorem apart_rng_at {xs : List Int} {i : Nat} {n : Int} (h : i < xs.length) (hx : ¬ (0 ≤ xs[i] ∧ xs[i] < n)) : apartB xs n = false := by
  rw [split_at h]; exact apart_rng hx
theorem apart_mem_at {xs : List Int} {i : Nat} {n : Int} (h : i < xs.length) (hx : xs[i] ∈ xs.take i) : apartB xs n = false := by
  rw [split_at h]; exact apart_mem hx
theorem apart_next {xs : List Int} {i : Nat} {n : Int} (h : i < xs.length) (k : apartB (xs.take i) n = true) (hx : 0 ≤ xs[i] ∧ xs[i] < n) (hm : xs[i] ∉ xs.take i) : apartB (xs.take (i + 1)) n = true := by
  rw [List.take_succ_eq_append_getElem h]; exact apart_yes k hx hm
theorem apart_all {xs : List Int} {n : Int} (k : apartB (xs.take xs.length) n = true) : apartB xs n = true := by rwa [List.take_length] at k
theorem apart_start (xs : List Int) (n : Int) : apartB (xs.take 0) n = true := apart_nil n
theorem apart_app {xs ys : List Int} {n : Int} (h : apartB (xs ++ ys) n = true) : apartB ys n = true := by
  have h := of_decide_eq_true h
  exact decide_eq_true ⟨(List.nodup_append.1 h.1).2.1, fun y hy => h.2 y (List.mem_append.2 (.inr hy))⟩
def kdB (k : Int) : Bool := decide (k = 1 ∨ k = 2 ∨ k = 5)
/-- what the loop number i must be -/
def infoB (x : InfM) (wd : Int) (i : Nat) : Bool :=
  kdB x.kd && carB x.car && bedB x.bed && inB x.at_ 0 (wd - 1) && dirB x.dir && decide (x.ps.length ≤ 4) && apartB x.ps i && (decide (x.ps.length = 0) || decide (x.kd ≠ 2)) && (decide (0 < x.ps.length) || decide (x.kd ≠ 5))
theorem infoB_kd {x : InfM} {wd : Int} {i : Nat} (h : kdB x.kd = false) : infoB x wd i = false := by simp [infoB, h]
theorem infoB_car {x : InfM} {wd : Int} {i : Nat} (h : carB x.car = false) : infoB x wd i = false := by simp [infoB, h]
theorem infoB_bed {x : InfM} {wd : Int} {i : Nat} (h : bedB x.bed = false) : infoB x wd i = false := by simp [infoB, h]
theorem infoB_at {x : InfM} {wd : Int} {i : Nat} (h : inB x.at_ 0 (wd - 1) = false) : infoB x wd i = false := by simp [infoB, h]
theorem infoB_dir {x : InfM} {wd : Int} {i : Nat} (h : dirB x.dir = false) : infoB x wd i = false := by simp [infoB, h]
theorem infoB_len {x : InfM} {wd : Int} {i : Nat} (h : ¬ x.ps.length ≤ 4) : infoB x wd i = false := by unfold infoB; rw [decide_eq_false h]; simp
theorem infoB_ap {x : InfM} {wd : Int} {i : Nat} (h : apartB x.ps i = false) : infoB x wd i = false := by simp [infoB, h]
theorem infoB_tuck {x : InfM} {wd : Int} {i : Nat} (h : ¬ x.ps.length = 0) (k : x.kd = 2) : infoB x wd i = false := by unfold infoB; rw [decide_eq_false h, decide_eq_false (by simp [k] : ¬ x.kd ≠ 2)]; simp
theorem infoB_split {x : InfM} {wd : Int} {i : Nat} (h : ¬ 0 < x.ps.length) (k : x.kd = 5) : infoB x wd i = false := by unfold infoB; rw [decide_eq_false h, decide_eq_false (by simp [k] : ¬ x.kd ≠ 5)]; simp
theorem infoB_yes {x : InfM} {wd : Int} {i : Nat} (h1 : kdB x.kd = true) (h2 : carB x.car = true) (h3 : bedB x.bed = true) (h4 : inB x.at_ 0 (wd - 1) = true) (h5 : dirB x.dir = true) (h6 : x.ps.length ≤ 4) (h7 : apartB x.ps i = true) (h8 : x.ps.length = 0 ∨ x.kd ≠ 2) (h9 : 0 < x.ps.length ∨ x.kd ≠ 5) : infoB x wd i = true := by
  unfold infoB
  have e8 : (decide (x.ps.length = 0) || decide (x.kd ≠ 2)) = true := by
    rcases h8 with h | h
    · rw [decide_eq_true h]; rfl
    · rw [decide_eq_true h]; simp
  have e9 : (decide (0 < x.ps.length) || decide (x.kd ≠ 5)) = true := by
    rcases h9 with h | h
    · rw [decide_eq_true h]; rfl
    · rw [decide_eq_true h]; simp
  rw [h1, h2, h3, h4, h5, decide_eq_true h6, h7, e8, e9]
  rfl
/-- rising numbers -/
def riseB (xs : List Int) : Bool := decide (xs.Pairwise (· < ·))
def upw (xs : List Int) (j : Nat) : Prop := ∀ i (hi : i < xs.length), 0 < i → i < j → xs[i-1]'(by omega) < xs[i]
theorem upw.start (xs : List Int) : upw xs 0 := fun _ _ _ h => absurd h (Nat.not_lt_zero _)
theorem upw.next {xs : List Int} {j : Nat} (h : upw xs j) (hj : j < xs.length) (hx : 0 < j → xs[j-1]'(by omega) < xs[j]) : upw xs (j + 1) := fun i hi h0 hij => by
  by_cases e : i = j
  · subst e; exact hx h0
  · exact h i hi h0 (by omega)
theorem upw.all {xs : List Int} (h : upw xs xs.length) : riseB xs = true := by
  refine decide_eq_true ?_
  rw [List.pairwise_iff_getElem]
  have step : ∀ d i (hi : i + d + 1 < xs.length), xs[i]'(by omega) < xs[i + d + 1] := by
    intro d
    induction d with
    | zero => intro i hi; exact h (i + 1) hi (by omega) hi
    | succ d ih =>
      intro i hi
      have h1 := ih i (by omega)
      have h2 := h (i + (d + 1) + 1) hi (by omega) hi
      have e : i + (d + 1) + 1 - 1 = i + d + 1 := by omega
      simp only [e] at h2
      omega
  intro i j hi hj hij
  have := step (j - i - 1) i (by omega)
  have e : i + (j - i - 1) + 1 = j := by omega
  simpa only [e] using this
theorem rise_no {xs : List Int} {j : Nat} (hj : j < xs.length) (h0 : 0 < j) (hx : xs[j] ≤ xs[j-1]'(by omega)) : riseB xs = false := by
  refine decide_eq_false fun h => ?_
  have := List.pairwise_iff_getElem.1 h (j - 1) j (by omega) hj (by omega)
  omega
def allB (f : Nat → Bool) (n : Nat) : Bool := (List.range n).all f
def AllTo (f : Nat → Bool) (j : Nat) : Prop := ∀ i, i < j → f i = true
theorem AllTo.start (f : Nat → Bool) : AllTo f 0 := fun _ h => absurd h (Nat.not_lt_zero _)
theorem AllTo.next {f : Nat → Bool} {j : Nat} (h : AllTo f j) (hj : f j = true) : AllTo f (j + 1) := fun i hi => by
  by_cases e : i = j
  · subst e; exact hj
  · exact h i (by omega)
theorem AllTo.all {f : Nat → Bool} {n : Nat} (h : AllTo f n) : allB f n = true := by
  unfold allB
  rw [List.all_eq_true]
  exact fun i hi => h i (List.mem_range.1 hi)
theorem all_no {f : Nat → Bool} {n j : Nat} (hj : j < n) (h : f j = false) : allB f n = false := by
  unfold allB
  rw [List.all_eq_false]
  exact ⟨j, List.mem_range.2 hj, by rw [h]; decide⟩
/-- what a carrier must be -/
def carOkB (c : CarM) (wd : Int) : Bool := inB c.pos (-3) (wd + 3) && (c.isin || decide (c.pos = 0))
def carsB (p : MacM) : Bool := allB (fun i => carOkB (p.cs.getD i ⟨false, 0⟩) p.wd) p.cs.length
def infosB (p : MacM) : Bool := allB (fun i => infoB (p.ls.getD i ⟨0, 0, 0, 0, 0, []⟩) p.wd i) p.ls.length
def fewB (xss : List (List Int)) : Bool := allB (fun i => decide ((xss.getD i []).length ≤ 4)) xss.length
theorem getD_eq {α : Type} {xs : List α} {i : Nat} {d : α} (h : i < xs.length) : xs.getD i d = xs[i] := by simp [h]
/-- all loops that lie somewhere -/
def lyingM (p : MacM) : List Int := p.fr.flatten ++ p.bk.flatten ++ p.dr
def headB (p : MacM) : Bool := inB p.wd 1 24 && rackB p.rk && decide ((p.fr.length : Int) = p.wd) && decide ((p.bk.length : Int) = p.wd) && decide (p.cs.length = 4) && decide (p.ls.length ≤ 300)
def okMac (p : MacM) : Bool := headB p && (fewB p.fr && fewB p.bk) && carsB p && infosB p && riseB p.dr && apartB (lyingM p) p.ls.length
theorem okMac_head {p : MacM} (h : headB p = false) : okMac p = false := by simp [okMac, h]
theorem okMac_fr {p : MacM} (h : fewB p.fr = false) : okMac p = false := by simp [okMac, h]
theorem okMac_bk {p : MacM} (h : fewB p.bk = false) : okMac p = false := by simp [okMac, h]
theorem okMac_cs {p : MacM} (h : carsB p = false) : okMac p = false := by simp [okMac, h]
theorem okMac_ls {p : MacM} (h : infosB p = false) : okMac p = false := by simp [okMac, h]
theorem okMac_dr {p : MacM} (h : riseB p.dr = false) : okMac p = false := by simp [okMac, h]
theorem okMac_ap {p : MacM} (h : apartB (lyingM p) p.ls.length = false) : okMac p = false := by simp [okMac, h]
theorem okMac_rest {p : MacM} (h : headB p = true) (h1 : fewB p.fr = true) (h2 : fewB p.bk = true) (h3 : carsB p = true) (h4 : infosB p = true) (h5 : riseB p.dr = true) : okMac p = apartB (lyingM p) p.ls.length := by simp [okMac, h, h1, h2, h3, h4, h5]
theorem headB_yes {p : MacM} (h : headB p = true) : (1 ≤ p.wd ∧ p.wd ≤ 24) ∧ (-3 ≤ p.rk ∧ p.rk ≤ 3) ∧ (p.fr.length : Int) = p.wd ∧ (p.bk.length : Int) = p.wd ∧ p.cs.length = 4 ∧ p.ls.length ≤ 300 := by
  unfold headB at h
  simp only [Bool.and_eq_true, decide_eq_true_eq] at h
  obtain ⟨⟨⟨⟨⟨h1, h2⟩, h3⟩, h4⟩, h5⟩, h6⟩ := h
  exact ⟨of_decide_eq_true h1, of_decide_eq_true h2, h3, h4, h5, h6⟩
end Go.Proofs.Ytchfjglofmphfaa
end
namespace Go.Proofs.Ytchfjglofmphfaa
open Go.ChangeShapes Go.WideShapes Go.ChangeAt Go.RowKit
/-- the letters of round t, the first m of them -/
def swapRow (p s : Int) (a t m : Nat) : List Int := (List.range m).map fun i : Nat => s * (p + t + ((a : Int) - 1 - i) + 1)
/-- the letters of b rounds -/
def swapTo (p s : Int) (a : Nat) : Nat → List Int
  | 0 => []
  | t + 1 => swapTo p s a t ++ swapRow p s a t a
theorem swapRow_length (p s : Int) (a t m : Nat) : (swapRow p s a t m).length = m := by simp [swapRow]
theorem swapRow_succ (p s : Int) (a t m : Nat) : swapRow p s a t (m + 1) = swapRow p s a t m ++ [s * (p + t + ((a : Int) - 1 - m) + 1)] := by simp [swapRow, List.range_succ]
theorem swapTo_length (p s : Int) (a : Nat) : ∀ t, (swapTo p s a t).length = t * a
  | 0 => by simp [swapTo]
  | t + 1 => by simp [swapTo, swapTo_length p s a t, swapRow_length, Nat.add_mul]
theorem ret_slice {v u : Value} (h : v = u) : Ending.returned v = .returned u := by rw [h]
set_option maxHeartbeats 1000000 in
theorem blockLetters_any (w : World) (p s : Int) (a b : Nat) (hp : 0 ≤ p ∧ p ≤ 1000000) (hs : s = 1 ∨ s = -1) (ha : a ≤ 1000) (hb : b ≤ 1000) :
    Calls Try.prog 197 #[.int .i64 p, .int .i64 a, .int .i64 b, .int .i64 s] w fun e w' => ∃ v, e = .returned v ∧ Ints w' (New w.heap.size w'.heap.size) v (swapTo p s a b) ∧ Up w w' := by
  obtain ⟨hp0, hp1⟩ := hp
  have HS := Lib.hid hs
  clear hs
  go_enter Try.func197, Try.ntmps197
  go_wp2
  go_loopw [9, 10, 11, 14] (fun v _ _ i wr => ∃ t : Nat, t ≤ b ∧ i = .int .i64 t ∧ Hid (OwnI wr w.heap.size v (swapTo p s a t)) ∧ Hid (Up w wr)) (fun _ _ _ i _ => b - (intOf i).toNat)
  case atStart => exact ⟨0, by omega, rfl, OwnI.made w _ (Nat.le_refl _), (Chg.refl _ _).alloc _⟩
  case round =>
    obtain ⟨t, ht, rfl, ho, hg⟩ := hrel
    by_cases hlt : t < b
    · obtain ⟨wo, rfl⟩ : ∃ wo : World, wo = wr := ⟨_, rfl⟩
      go_wp2
      go_loopw [9, 11] (fun v k wr => ∃ m : Nat, m ≤ a ∧ k = .int .i64 ((a : Int) - 1 - m) ∧ Hid (OwnI wr w.heap.size v (swapTo p s a t ++ swapRow p s a t m)) ∧ Hid (Up w wr)) (fun _ k _ => (intOf k + 1).toNat)
      case atStart => exact ⟨0, by omega, by simp, by simpa [swapRow, Hid] using ho, hg⟩
      case round =>
        obtain ⟨m, hm, rfl, ho2, hg2⟩ := hrel
        by_cases hlt2 : m < a
        · have hx : s * (p + t + ((a : Int) - 1 - m) + 1) ≤ 1010000 ∧ -1010000 ≤ s * (p + t + ((a : Int) - 1 - m) + 1) := by
            rcases HS.out with rfl | rfl <;> omega
          have hw64 : wrap64 (s * (p + t + ((a : Int) - 1 - m) + 1)) = s * (p + t + ((a : Int) - 1 - m) + 1) := by
            have := hx; unfold wrap64; omega
          have HI := Lib.hid (show I64 (s * (p + t + ((a : Int) - 1 - m) + 1)) by unfold I64; omega)
          have HL := Lib.hid (show (swapTo p s a t ++ swapRow p s a t m).length ≤ 1099511627776 by
            rw [List.length_append, swapTo_length, swapRow_length]
            have : t * a ≤ 1000 * 1000 := Nat.mul_le_mul (by omega) ha
            omega)
          clear hx
          have hsz := hg2.out.size
          have hge : (0 : Int) ≤ (a : Int) - 1 - m := by omega
          go_wp2_with (first | (at_builtin; refine wp_append_int rfl _ _ rfl w.heap.size _ (swapTo p s a t ++ swapRow p s a t m) rfl (ho2.out.alloc _) _ (s * (p + t + ((a : Int) - 1 - m) + 1)) rfl (cell_new _ _ _ _) HI.out HL.out ?_ ?_; (simp; omega); intro v' w1 ho1 _ hg1; have HO := Lib.hid ho1; have HG := Lib.hid hg1; clear ho1 hg1))
          go_roundw
          case rel => exact ⟨m + 1, by omega, by simp only [Value.int.injEq, true_and]; omega, by rw [swapRow_succ, ← List.append_assoc]; exact HO.out, Chg.new (hg2.out.alloc _) HG.out (fun i hi => by omega)⟩
          case measure => simp [intOf]; omega
        · obtain rfl : m = a := by omega
          have hge : ¬ (0 : Int) ≤ (m : Int) - 1 - m := by omega
          go_wp2
          go_roundw
          case rel => exact ⟨t + 1, by omega, by go_num, ho2, hg2⟩
          case measure => simp [intOf]; omega
    · obtain rfl : t = b := by omega
      go_wp2
      go_ret
      exact ⟨_, rfl, ho.out.ints, hg.out⟩
end Go.Proofs.Ytchfjglofmphfaa
namespace Go.Proofs.Ytchfjglofmphfaa
open Go.ChangeShapes Go.WideShapes Go.ChangeAt Go.RowKit
structure EvM where
  kind : Int
  place : Int
  count : Int
  bed : Int
  car : Int
  dir : Int
def EvM.cells (x : EvM) : List Value := [.int .i64 x.kind, .int .i64 x.place, .int .i64 x.count, .int .i64 x.bed, .int .i64 x.car, .int .i64 x.dir]
def EvM.ok (x : EvM) : Prop := I64 x.kind ∧ I64 x.place ∧ I64 x.count ∧ I64 x.bed ∧ I64 x.car ∧ I64 x.dir
theorem EvM.cells_length (x : EvM) : x.cells.length = 6 := rfl
abbrev EvM.val (x : EvM) : Value := .agg #[.int .i64 x.kind, .int .i64 x.place, .int .i64 x.count, .int .i64 x.bed, .int .i64 x.car, .int .i64 x.dir]
/-- a slice that reads as the list xs -/
def Evs (w : World) (S : Nat → Prop) (v : Value) (xs : List EvM) : Prop := Raw w S 6 v xs.length (xs.flatMap EvM.cells) ∧ ∀ x ∈ xs, x.ok
section
variable {S T : Nat → Prop} {w w' : World} {v : Value} {xs : List EvM}
theorem Evs.keep (h : Evs w S v xs) (g : Chg T w w') (hd : ∀ b, b < w.heap.size → S b → ¬ T b) : Evs w' S v xs := ⟨h.1.keep g hd, h.2⟩
theorem Evs.up (h : Evs w S v xs) (g : Up w w') : Evs w' S v xs := ⟨h.1.up g, h.2⟩
theorem Evs.alloc' (h : Evs w S v xs) (o : Obj) : Evs (w.alloc o) S v xs := h.up ((Chg.refl _ _).alloc o)
theorem Evs.mono (h : Evs w S v xs) (hs : ∀ b, b < w.heap.size → S b → T b) : Evs w T v xs := ⟨h.1.mono hs, h.2⟩
theorem Evs.shape (h : Evs w S v xs) : ∃ A c, v = .slice A xs.length c ∧ xs.length ≤ c ∧ c ≤ 9223372036854775807 ∧ (A = none → c = 0) := h.1.shape
theorem Evs.nil (w : World) (S : Nat → Prop) (c : Nat) (A : Option Addr) (hc : c ≤ 9223372036854775807) (hA : A = none → c = 0 := by simp) : Evs w S (.slice A 0 c) [] := ⟨Raw.nil w S 6 c A hc hA, by simp⟩
theorem Evs.at_ (h : Evs w S v xs) {i : Nat} (hi : i < xs.length) : ∃ b o c, v = .slice (some ⟨b, o, none⟩) xs.length c ∧ S b ∧ b < w.heap.size ∧
    ∀ j u, (xs[i].cells)[j]? = some u → w.cell? ⟨b, o + i * 6 + j, none⟩ = some u ∧ w.frozen? ⟨b, o + i * 6 + j, none⟩ = false := Raw.at_ EvM.cells_length h.1 hi
end
theorem eqEvent_same (w : World) (x : EvM) : Calls Try.prog 57 #[x.val, x.val] w fun e w' => e = .returned (.bool true) ∧ Up w w' := by
  go_enter Try.func57, Try.ntmps57
  go_wp2
  go_ret
  exact ⟨rfl, by repeat (first | exact Chg.refl _ _ | apply Chg.drew | apply Chg.drewN | refine Chg.alloc ?_ _)⟩
set_option maxRecDepth 100000 in
set_option maxHeartbeats 2000000 in
theorem eqEvs (w : World) (S T : Nat → Prop) (v u : Value) (xs : List EvM) (h : Evs w S v xs) (h2 : Evs w T u xs) :
    Calls Try.prog 11 #[v, u] w fun e w' => e = .returned (.bool true) ∧ Up w w' := by
  obtain ⟨A, c, rfl, hlc, hcm, -⟩ := h.shape
  obtain ⟨A2, c2, rfl, hlc2, hcm2, -⟩ := h2.shape
  have hz : ((xs.length : Int) != xs.length) = false := by simp
  have H := Lib.hid h
  have H2 := Lib.hid h2
  clear h h2
  go_enter Try.func11, Try.ntmps11
  go_wp2
  go_loopw [5] (fun i wr => ∃ j : Nat, j ≤ xs.length ∧ i = .int .i64 j ∧ Hid (Up w wr)) (fun i _ => xs.length - (intOf i).toNat)
  case atStart => exact ⟨0, by omega, rfl, Chg.refl _ _⟩
  case round =>
    obtain ⟨j, hj, rfl, hg⟩ := hrel
    by_cases hlt : j < xs.length
    · obtain ⟨b, o, c', he, -, -, hc⟩ := (H.out.up hg.out).at_ hlt
      obtain ⟨b2, o2, c2', he2, -, -, hc2⟩ := (H2.out.up hg.out).at_ hlt
      obtain ⟨rfl, rfl⟩ : A = some ⟨b, o, none⟩ ∧ c = c' := by simpa using he
      obtain ⟨rfl, rfl⟩ : A2 = some ⟨b2, o2, none⟩ ∧ c2 = c2' := by simpa using he2
      have f0 := (hc 0 _ rfl).1
      have f1 := (hc 1 _ rfl).1
      have f2 := (hc 2 _ rfl).1
      have f3 := (hc 3 _ rfl).1
      have f4 := (hc 4 _ rfl).1
      have f5 := (hc 5 _ rfl).1
      have g0 := (hc2 0 _ rfl).1
      have g1 := (hc2 1 _ rfl).1
      have g2 := (hc2 2 _ rfl).1
      have g3 := (hc2 3 _ rfl).1
      have g4 := (hc2 4 _ rfl).1
      have g5 := (hc2 5 _ rfl).1
      rw [Nat.add_zero] at f0 g0
      clear hc hc2 he he2
      go_wp2
      go_still_tail 8, (by kernel_rfl)
      go_wp2_with fail
      refine (eqEvent_same _ xs[j]).mono ?_
      rintro e w1 ⟨rfl, k1⟩
      have K1 := Lib.hid k1
      clear k1
      go_wp2
      go_roundw
      case rel => exact ⟨j + 1, by omega, by go_num, (hg.out.drew).trans K1.out⟩
      case measure => simp [intOf]; omega
    · go_wp2
      go_ret
      exact ⟨rfl, hg.out⟩
def MEvs (w : World) (S : Nat → Prop) (v : Value) (xs : List EvM) (k : Int) : Prop := Raw w S 6 v xs.length (markCells k (xs.length * 6))
theorem MEvs.keep {S T : Nat → Prop} {w w' : World} {v : Value} {xs : List EvM} {k : Int} (h : MEvs w S v xs k) (g : Chg T w w') (hd : ∀ b, b < w.heap.size → S b → ¬ T b) : MEvs w' S v xs k := Raw.keep h g hd
theorem MEvs.up {S : Nat → Prop} {w w' : World} {v : Value} {xs : List EvM} {k : Int} (h : MEvs w S v xs k) (g : Up w w') : MEvs w' S v xs k := Raw.up h g
def cntEvs (xs : List EvM) : Nat := xs.length * 6
set_option maxRecDepth 100000 in
set_option maxHeartbeats 2000000 in
theorem rawmarkEventS (w : World) (S : Nat → Prop) (v : Value) (n : Nat) (cs : List Value) (k : Int) (hk : 0 ≤ k) (hb : k + (n * 6 : Nat) ≤ 4611686018427387904)
    (h : Raw w S 6 v n cs) :
    Calls Try.prog 14 #[v, .int .i64 k] w fun e w' => e = .returned (.int .i64 (k + (n * 6 : Nat))) ∧ Chg S w w' ∧ Raw w' S 6 v n (markCells k (n * 6)) := by
  obtain ⟨hl, A, c, rfl, hlc, hcm, hr, hnn⟩ := h
  by_cases hz : 0 < n
  · obtain ⟨b, o, rfl, hS, hbl, hc⟩ := hr hz
    have Hc := Lib.hid hc
    have HS := Lib.hid hS
    have Hl := Lib.hid hl
    clear hr hc hS hl
    go_enter Try.func14, Try.ntmps14
    go_wp2
    go_loopw [1, 5] (fun q i wr => ∃ j : Nat, j ≤ n ∧ i = .int .i64 j ∧ q = .int .i64 (k + 6 * j) ∧ Hid (Chg S w wr) ∧ Hid (Marking wr b o 6 n j k)) (fun _ i _ => n - (intOf i).toNat)
    case atStart => exact ⟨0, by omega, rfl, by simp, Chg.refl _ _, Marking.start k Hl.out Hc.out⟩
    case round =>
      obtain ⟨j, hj, rfl, rfl, hg, hcs⟩ := hrel
      by_cases hlt : j < n
      · obtain ⟨x0, f0, q0⟩ := hcs.out.cell hlt 0 (by omega)
        obtain ⟨x1, f1, q1⟩ := hcs.out.cell hlt 1 (by omega)
        obtain ⟨x2, f2, q2⟩ := hcs.out.cell hlt 2 (by omega)
        obtain ⟨x3, f3, q3⟩ := hcs.out.cell hlt 3 (by omega)
        obtain ⟨x4, f4, q4⟩ := hcs.out.cell hlt 4 (by omega)
        obtain ⟨x5, f5, q5⟩ := hcs.out.cell hlt 5 (by omega)
        rw [Nat.add_zero] at f0 q0
        go_wp2
        go_roundw
        case rel =>
          clear f0 f1 f2 f3 f4 f5 q0 q1 q2 q3 q4 q5
          refine ⟨j + 1, by omega, by go_num, by simp only [Value.int.injEq, true_and]; omega, Chg.setCells HS.out [_, _, _, _, _, _] (o + j * 6) hg.out, Marking.next hcs.out hlt (vs := [_, _, _, _, _, _]) ?_⟩
          simp only [List.range, List.range.loop, List.map_cons, List.map_nil, List.cons.injEq, Value.int.injEq, true_and, and_true]
          omega
        case measure => simp [intOf]; omega
      · obtain rfl : j = n := by omega
        go_wp2
        go_ret
        exact ⟨ret_int (by omega), hg.out, Marking.done hcs.out HS.out (Nat.lt_of_lt_of_le hbl hg.out.size) hlc hcm⟩
  · obtain rfl : n = 0 := by omega
    clear hr hl
    go_enter Try.func14, Try.ntmps14
    go_wp2
    go_loop [1, 5] (fun q i => i = .int .i64 0 ∧ q = .int .i64 k) (fun _ _ => 0)
    case atStart => exact ⟨rfl, rfl⟩
    case round =>
      obtain ⟨rfl, rfl⟩ := hrel
      go_wp2
      go_ret
      exact ⟨by simp, Chg.refl _ _, Raw.nil _ _ _ _ _ hcm hnn⟩
theorem markEvs (w : World) (S : Nat → Prop) (v : Value) (xs : List EvM) (k : Int) (hk : 0 ≤ k) (hb : k + cntEvs xs ≤ 4611686018427387904) (h : Evs w S v xs) :
    Calls Try.prog 14 #[v, .int .i64 k] w fun e w' => e = .returned (.int .i64 (k + cntEvs xs)) ∧ Chg S w w' ∧ MEvs w' S v xs k :=
  rawmarkEventS w S v xs.length _ k hk hb h.1
set_option maxRecDepth 100000 in
set_option maxHeartbeats 2000000 in
theorem rawheldEventS (w : World) (S : Nat → Prop) (v : Value) (n : Nat) (k : Int) (hk : 0 ≤ k) (hb : k + (n * 6 : Nat) ≤ 4611686018427387904)
    (h : Raw w S 6 v n (markCells k (n * 6))) :
    Calls Try.prog 15 #[v, .int .i64 k] w fun e w' => e = .returned (.int .i64 (k + (n * 6 : Nat))) ∧ w = w' := by
  obtain ⟨A, c, rfl, hlc, hcm, -⟩ := h.shape
  have H := Lib.hid h
  clear h
  go_enter Try.func15, Try.ntmps15
  go_wp2
  go_loop [1, 5] (fun q i => ∃ j : Nat, j ≤ n ∧ i = .int .i64 j ∧ q = .int .i64 (k + 6 * j)) (fun _ i => n - (intOf i).toNat)
  case atStart => exact ⟨0, by omega, rfl, by simp⟩
  case round =>
    obtain ⟨j, hj, rfl, rfl⟩ := hrel
    by_cases hlt : j < n
    · obtain ⟨b, o, c', he, hc⟩ := H.out.mark hlt
      obtain ⟨rfl, rfl⟩ : A = some ⟨b, o, none⟩ ∧ c = c' := by simpa using he
      have f0 := hc 0 (by omega) (k + 6 * j) (by omega)
      have f1 := hc 1 (by omega) (k + 6 * j + 1) (by omega)
      have f2 := hc 2 (by omega) (k + 6 * j + 1 + 1) (by omega)
      have f3 := hc 3 (by omega) (k + 6 * j + 1 + 1 + 1) (by omega)
      have f4 := hc 4 (by omega) (k + 6 * j + 1 + 1 + 1 + 1) (by omega)
      have f5 := hc 5 (by omega) (k + 6 * j + 1 + 1 + 1 + 1 + 1) (by omega)
      rw [Nat.add_zero] at f0
      clear hc he
      go_wp2
      go_round
      case rel => exact ⟨j + 1, by omega, by go_num, by simp only [Value.int.injEq, true_and]; omega⟩
      case measure => simp [intOf]; omega
    · obtain rfl : j = n := by omega
      go_wp2
      go_ret
      exact ⟨ret_int (by omega), rfl⟩
theorem heldEvs (w : World) (S : Nat → Prop) (v : Value) (xs : List EvM) (k : Int) (hk : 0 ≤ k) (hb : k + cntEvs xs ≤ 4611686018427387904) (h : MEvs w S v xs k) :
    Calls Try.prog 15 #[v, .int .i64 k] w fun e w' => e = .returned (.int .i64 (k + cntEvs xs)) ∧ Up w w' :=
  (rawheldEventS w S v xs.length k hk hb h).mono fun _ _ ⟨he, hw⟩ => ⟨he, hw ▸ Chg.refl _ _⟩
/-- a slice of the call's own, from block base on -/
def OwnEvs (w : World) (base : Nat) (v : Value) (xs : List EvM) : Prop :=
  w.ownsRow base 114 6 v xs.length (xs.flatMap EvM.cells) ∧ ∀ x ∈ xs, x.ok
theorem OwnEvs.nil (w : World) (base : Nat) : OwnEvs w base (.slice none 0 0) [] := ⟨World.ownsRow_nil _ _ _ _, by simp⟩
theorem OwnEvs.made (w : World) (base : Nat) (hb : base ≤ w.heap.size) : OwnEvs (w.alloc (.cells #[] 114)) base (.slice (some ⟨w.heap.size, 0, none⟩) 0 0) [] :=
  ⟨World.ownsRow_made w _ 0 hb (by unfold Go.maxLen; omega) (by simp), by simp⟩
theorem OwnEvs.alloc {w : World} {base : Nat} {v : Value} {xs : List EvM} (h : OwnEvs w base v xs) (o : Obj) : OwnEvs (w.alloc o) base v xs := ⟨h.1.alloc o, h.2⟩
theorem OwnEvs.kept {w w' : World} {base : Nat} {v : Value} {xs : List EvM} {S : Nat → Prop} (h : OwnEvs w base v xs) (k : Chg S w w') (hS : ∀ g, v.ownBlock = some g → ¬ S g) : OwnEvs w' base v xs := by
  refine ⟨⟨h.1.1, ?_⟩, h.2⟩
  rcases h.1.2 with h2 | ⟨g, cap, cur, rfl, hg, hh, r⟩
  · exact Or.inl h2
  · exact Or.inr ⟨g, cap, cur, rfl, hg, (k.block g (Array.getElem?_eq_some_iff.1 hh).1 (hS g rfl)).trans hh, r⟩
theorem OwnEvs.up {w w' : World} {base : Nat} {v : Value} {xs : List EvM} (h : OwnEvs w base v xs) (k : Up w w') : OwnEvs w' base v xs := h.kept k fun _ _ h => h
theorem OwnEvs.rd {w : World} {base : Nat} {v : Value} {xs : List EvM} (h : OwnEvs w base v xs) : Evs w (New base w.heap.size) v xs := ⟨Raw.of_own h.1, h.2⟩
theorem OwnEvs.lt {w : World} {base : Nat} {v : Value} {xs : List EvM} (h : OwnEvs w base v xs) {g : Nat} (hg : v.ownBlock = some g) : base ≤ g ∧ g < w.heap.size := h.1.lt g hg
theorem infoEvs : (Try.prog.info? 114).map (fun i => (i.zero, i.size, i.bytes)) = some (some (EvM.mk 0 0 0 0 0 0).val, 6, 48) := by kernel_rfl
theorem cells_oneEvs (x : EvM) : ∀ u ∈ x.cells, u.oneCell' = true := by
  intro u hu
  simp only [EvM.cells, List.mem_cons, List.not_mem_nil, or_false] at hu
  rcases hu with rfl | rfl | rfl | rfl | rfl | rfl <;> rfl
set_option maxRecDepth 100000 in
theorem wp_appendEvs {w : World} {ops : Array Oper} {rest : List Oper} {o : Oper} {a : Act} {Q : Exit → Act → World → Prop} (hgd : o.guard = none) (s x : Operand)
    (ho : o.op = .call { callee := .builtin .append, args := #[s, x], argTypes := #[29, 29] })
    (base : Nat) (v : Value) (xs : List EvM) (hs : a.eval s = v) (hown : OwnEvs w base v xs)
    (S : Nat → Prop) (u : Value) (ys : List EvM) (hx : a.eval x = u) (hsrc : Evs w S u ys) (hlen : xs.length + ys.length ≤ 1099511627776) (hbase : base ≤ w.heap.size)
    (h : ∀ v' w', OwnEvs w' base v' (xs ++ ys) → w.grownBy w' v.ownBlock → Chg (fun k => base ≤ k) w w' → wpList Try.prog ops Q rest (a.put o.dst v') w') : wpList Try.prog ops Q (o :: rest) a w := by
  obtain ⟨i0, hi, hz0, hz1, hz2⟩ := info_parts infoEvs
  obtain ⟨⟨hl, A, c, rfl, hlc, hcm, hr, hnn⟩, hok⟩ := hsrc
  have hok' : ∀ y ∈ xs ++ ys, y.ok := fun y hy => (List.mem_append.1 hy).elim (hown.2 y) (hok y)
  cases A with
  | none =>
    have hy : ys = [] := by
      rcases Nat.eq_zero_or_pos ys.length with h0 | h0
      · exact List.eq_nil_of_length_eq_zero h0
      · obtain ⟨b, oo, h1, _⟩ := hr h0
        cases h1
    subst hy
    obtain rfl := hnn rfl
    refine wpList_append_own_none hgd s x 29 ho base 114 i0 6 Try.underlying29 hi v xs.length _ hs hown.1 hx ?_
    exact h v w (by simpa using hown) (World.grownBy.refl w _) (Chg.refl _ _)
  | some ad =>
    have hnews : ∀ j q, (ys.flatMap EvM.cells)[j]? = some q → w.cell? (ad.add j) = some q := by
      intro j q hq
      obtain ⟨hj, he⟩ := List.getElem?_eq_some_iff.1 hq
      have hp : 0 < ys.length := by
        rcases Nat.eq_zero_or_pos ys.length with h0 | h0
        · rw [List.eq_nil_of_length_eq_zero h0] at hj; simp at hj
        · exact h0
      obtain ⟨b, oo, h1, _, _, hc⟩ := hr hp
      injection h1 with h1
      subst h1
      have := (hc j hj).1
      rw [he] at this
      rw [← this]
      unfold Addr.add
      by_cases h0 : j = 0 <;> simp [h0]
    refine wpList_append_own (P := Try.prog) w hgd s x 29 ho base 114 i0 _ 6 48 Try.underlying29 hi hz0 hz1 hz2 rfl (by decide) v xs.length _ hs hown.1 ad ys.length c (ys.flatMap EvM.cells) hx hl hnews ?_ ?_ ?_ hbase ?_
    · intro q hq
      obtain ⟨y, _, hy⟩ := List.mem_flatMap.1 hq
      exact cells_oneEvs y q hy
    · unfold Go.maxLen; omega
    · omega
    · intro v' w' h2 h3 _
      exact h v' w' ⟨by simpa using h2, hok'⟩ h3 ((Chg.refl _ _).grown h3 fun k hk => .inl (hown.1.lt k hk).1)
set_option maxRecDepth 100000 in
/-- the same at a step of a region that draws its order -/
theorem step_appendEvs {w : World} {ops : Array Oper} {o : Oper} {a : Act} {K : Act → World → Prop} {Q : Exit → Act → World → Prop} {E : Prop} (hgd : o.guard = none) (s x : Operand)
    (ho : o.op = .call { callee := .builtin .append, args := #[s, x], argTypes := #[29, 29] })
    (base : Nat) (v : Value) (xs : List EvM) (hs : a.eval s = v) (hown : OwnEvs w base v xs)
    (S : Nat → Prop) (u : Value) (ys : List EvM) (hx : a.eval x = u) (hsrc : Evs w S u ys) (hlen : xs.length + ys.length ≤ 1099511627776) (hbase : base ≤ w.heap.size)
    (h : ∀ v' w', OwnEvs w' base v' (xs ++ ys) → w.grownBy w' v.ownBlock → Chg (fun k => base ≤ k) w w' → K (a.put o.dst v') w') :
    if Region.wanted o (yielded ops a.tmps) = true then Oper.wp Try.prog o a w K Q else E := by
  have hw : Region.wanted o (yielded ops a.tmps) = true := by simp [Region.wanted, hgd]
  rw [if_pos hw]
  obtain ⟨i0, hi, hz0, hz1, hz2⟩ := info_parts infoEvs
  obtain ⟨⟨hl, A, c, rfl, hlc, hcm, hr, hnn⟩, hok⟩ := hsrc
  have hok' : ∀ y ∈ xs ++ ys, y.ok := fun y hy => (List.mem_append.1 hy).elim (hown.2 y) (hok y)
  cases A with
  | none =>
    have hy : ys = [] := by
      rcases Nat.eq_zero_or_pos ys.length with h0 | h0
      · exact List.eq_nil_of_length_eq_zero h0
      · obtain ⟨b, oo, h1, _⟩ := hr h0
        cases h1
    subst hy
    obtain rfl := hnn rfl
    have hrun := run_append_owned_none (P := Try.prog) (w := w) base 29 o.type 114 i0 6 Try.underlying29 hi v xs.length _ hown.1
    have hK := h v w (by simpa using hown) (World.grownBy.refl w _) (Chg.refl _ _)
    unfold Oper.wp
    simp [execOp, ho, resolve, invoke, builtin, hs, hx, hrun, Result.andThen]
    exact hK
  | some ad =>
    have hnews : ∀ j q, (ys.flatMap EvM.cells)[j]? = some q → w.cell? (ad.add j) = some q := by
      intro j q hq
      obtain ⟨hj, he⟩ := List.getElem?_eq_some_iff.1 hq
      have hp : 0 < ys.length := by
        rcases Nat.eq_zero_or_pos ys.length with h0 | h0
        · rw [List.eq_nil_of_length_eq_zero h0] at hj; simp at hj
        · exact h0
      obtain ⟨b, oo, h1, _, _, hc⟩ := hr hp
      injection h1 with h1
      subst h1
      have := (hc j hj).1
      rw [he] at this
      rw [← this]
      unfold Addr.add
      by_cases h0 : j = 0 <;> simp [h0]
    refine wp_append_own (P := Try.prog) w s x 29 ho base 114 i0 _ 6 48 Try.underlying29 hi hz0 hz1 hz2 rfl (by decide) v xs.length _ hs hown.1 ad ys.length c (ys.flatMap EvM.cells) hx hl hnews ?_ ?_ ?_ hbase ?_
    · intro q hq
      obtain ⟨y, _, hy⟩ := List.mem_flatMap.1 hq
      exact cells_oneEvs y q hy
    · unfold Go.maxLen; omega
    · omega
    · intro v' w' h2 h3 _
      exact h v' w' ⟨by simpa using h2, hok'⟩ h3 ((Chg.refl _ _).grown h3 fun k hk => .inl (hown.1.lt k hk).1)
theorem wp_append1Evs {w : World} {ops : Array Oper} {rest : List Oper} {o : Oper} {a : Act} {Q : Exit → Act → World → Prop} (hgd : o.guard = none) (s x : Operand)
    (ho : o.op = .call { callee := .builtin .append, args := #[s, x], argTypes := #[29, 29] })
    (base : Nat) (v : Value) (xs : List EvM) (hs : a.eval s = v) (hown : OwnEvs w base v xs)
    (g : Nat) (y : EvM) (hx : a.eval x = .slice (some ⟨g, 0, none⟩) 1 1) (hh : w.heap[g]? = some (.cells y.cells.toArray 114 (0, 0))) (hy : y.ok) (hlen : xs.length ≤ 1099511627775) (hbase : base ≤ w.heap.size)
    (h : ∀ v' w', OwnEvs w' base v' (xs ++ [y]) → w.grownBy w' v.ownBlock → Chg (fun k => base ≤ k) w w' → wpList Try.prog ops Q rest (a.put o.dst v') w') : wpList Try.prog ops Q (o :: rest) a w :=
  wp_appendEvs hgd s x ho base v xs hs hown (fun _ => True) _ [y] hx ⟨Raw.of_block hh (by simp) trivial rfl (by simp) (by omega), by simpa using hy⟩ (by simp; omega) hbase h
end Go.Proofs.Ytchfjglofmphfaa
section
set_option linter.unusedSimpArgs false
set_option linter.unusedVariables false
namespace Go.Proofs.Ytchfjglofmphfaa
open Go.ChangeShapes Go.WideShapes Go.ChangeAt Go.RowKit
def evX (s l : Int) : EvM := ⟨1, l - 1, s, 0, 0, 0⟩
/-- the crossings of two blocks of strands -/
def crossE (p s : Int) (a b : Nat) : List EvM := (swapTo p 1 a b).map (evX s)
theorem crossE_length (p s : Int) (a b : Nat) : (crossE p s a b).length = b * a := by simp [crossE, swapTo_length]
/-- how many loops the first lists hold -/
def preL (xss : List (List Int)) (i : Nat) : Nat := ((xss.take i).map List.length).sum
theorem preL_zero (xss : List (List Int)) : preL xss 0 = 0 := by simp [preL]
theorem preL_succ {xss : List (List Int)} {i : Nat} (h : i < xss.length) : preL xss (i + 1) = preL xss i + xss[i].length := by
  unfold preL
  rw [List.take_succ_eq_append_getElem h, List.map_append, List.sum_append]
  simp
theorem preL_over {xss : List (List Int)} {i : Nat} (h : xss.length ≤ i) : preL xss i = preL xss xss.length := by
  unfold preL
  rw [List.take_of_length_le h, List.take_length]
theorem preL_le {xss : List (List Int)} (h : ∀ i (hi : i < xss.length), xss[i].length ≤ 4) : ∀ i, preL xss i ≤ 4 * xss.length := by
  have key : ∀ i, i ≤ xss.length → preL xss i ≤ 4 * i := by
    intro i
    induction i with
    | zero => intro _; simp [preL]
    | succ i ih =>
      intro hi
      have := ih (by omega)
      have := h i hi
      rw [preL_succ hi]
      omega
  intro i
  by_cases c : i ≤ xss.length
  · have := key i c
    omega
  · rw [preL_over (by omega)]
    exact key _ (Nat.le_refl _)
def lenF (p : MacM) (i : Nat) : Nat := (p.fr.getD i []).length
def lenB (p : MacM) (i : Nat) : Nat := (p.bk.getD i []).length
/-- the loops ahead of a needle on a place: those of the first i front needles and of the first k back needles -/
def befM (p : MacM) (i k : Int) : Int := (preL p.fr i.toNat : Int) + preL p.bk k.toNat
/-- the back needle that faces front needle i in a step of the rack -/
def facK (r by_ : Int) (i : Nat) : Int := if 0 < by_ then i - r - 1 else i - r
/-- the events of one step of the rack at front needle i -/
def rackE (p : MacM) (r by_ : Int) (i : Nat) : List EvM :=
  if 0 ≤ facK r by_ i ∧ facK r by_ i < p.bk.length then
    if 0 < by_ then crossE (befM p i (facK r by_ i)) (-1) (lenB p (facK r by_ i).toNat) (lenF p i) else crossE (befM p i (facK r by_ i)) 1 (lenF p i) (lenB p (facK r by_ i).toNat)
  else []
def rackTo (p : MacM) (r by_ : Int) : Nat → List EvM
  | 0 => []
  | i + 1 => rackTo p r by_ i ++ rackE p r by_ i
/-- the events of one step of the rack -/
def oneRack (p : MacM) (r by_ : Int) : List EvM := rackTo p r by_ p.fr.length
/-- the events of n steps -/
def racksTo (p : MacM) (r by_ : Int) : Nat → List EvM
  | 0 => []
  | n + 1 => racksTo p r by_ n ++ oneRack p (r + by_ * n) by_
def rackAllM (p : MacM) (t : Int) : List EvM := if p.rk ≤ t then racksTo p p.rk 1 (t - p.rk).toNat else racksTo p p.rk (-1) (p.rk - t).toNat
theorem rackE_no {p : MacM} {r by_ : Int} {i : Nat} (h : ¬ (0 ≤ facK r by_ i ∧ facK r by_ i < p.bk.length)) : rackE p r by_ i = [] := by unfold rackE; rw [if_neg h]
theorem rackE_up {p : MacM} {r by_ : Int} {i : Nat} (h : 0 ≤ facK r by_ i ∧ facK r by_ i < p.bk.length) (hb : 0 < by_) : rackE p r by_ i = crossE (befM p i (facK r by_ i)) (-1) (lenB p (facK r by_ i).toNat) (lenF p i) := by unfold rackE; rw [if_pos h, if_pos hb]
theorem rackE_down {p : MacM} {r by_ : Int} {i : Nat} (h : 0 ≤ facK r by_ i ∧ facK r by_ i < p.bk.length) (hb : ¬ 0 < by_) : rackE p r by_ i = crossE (befM p i (facK r by_ i)) 1 (lenF p i) (lenB p (facK r by_ i).toNat) := by unfold rackE; rw [if_pos h, if_neg hb]
/-- a machine whose lists are short -/
structure FewM (p : MacM) : Prop where
  n1 : p.fr.length ≤ 24
  n2 : p.bk.length = p.fr.length
  wd : p.wd = p.fr.length
  f : ∀ i (hi : i < p.fr.length), p.fr[i].length ≤ 4
  b : ∀ i (hi : i < p.bk.length), p.bk[i].length ≤ 4
theorem FewM.lenF {p : MacM} (h : FewM p) (i : Nat) : lenF p i ≤ 4 := by
  unfold Go.Proofs.Ytchfjglofmphfaa.lenF
  by_cases c : i < p.fr.length
  · rw [getD_eq c]; exact h.f i c
  · simp [List.getElem?_eq_none (by omega : p.fr.length ≤ i)]
theorem FewM.lenB {p : MacM} (h : FewM p) (i : Nat) : lenB p i ≤ 4 := by
  unfold Go.Proofs.Ytchfjglofmphfaa.lenB
  by_cases c : i < p.bk.length
  · rw [getD_eq c]; exact h.b i c
  · simp [List.getElem?_eq_none (by omega : p.bk.length ≤ i)]
theorem FewM.bef {p : MacM} (h : FewM p) (i k : Int) : 0 ≤ befM p i k ∧ befM p i k ≤ 192 := by
  unfold befM
  have h1 := preL_le h.f i.toNat
  have h2 := preL_le h.b k.toNat
  have := h.n1
  have := h.n2
  omega
theorem rackE_length {p : MacM} (h : FewM p) (r by_ : Int) (i : Nat) : (rackE p r by_ i).length ≤ 16 := by
  unfold rackE
  have h1 := h.lenF i
  have h2 := h.lenB (facK r by_ i).toNat
  split
  · split
    · rw [crossE_length]; exact Nat.mul_le_mul h1 h2
    · rw [crossE_length]; exact Nat.mul_le_mul h2 h1
  · simp
theorem rackTo_length {p : MacM} (h : FewM p) (r by_ : Int) : ∀ i, (rackTo p r by_ i).length ≤ 16 * i
  | 0 => by simp [rackTo]
  | i + 1 => by
    rw [rackTo, List.length_append]
    have := rackTo_length h r by_ i
    have := rackE_length h r by_ i
    omega
theorem oneRack_length {p : MacM} (h : FewM p) (r by_ : Int) : (oneRack p r by_).length ≤ 384 := by
  have := rackTo_length h r by_ p.fr.length
  have := h.n1
  unfold oneRack
  omega
theorem racksTo_length {p : MacM} (h : FewM p) (r by_ : Int) : ∀ n, (racksTo p r by_ n).length ≤ 384 * n
  | 0 => by simp [racksTo]
  | n + 1 => by
    rw [racksTo, List.length_append]
    have := racksTo_length h r by_ n
    have := oneRack_length h (r + by_ * n) by_
    omega
end Go.Proofs.Ytchfjglofmphfaa
end
namespace Go.Proofs.Ytchfjglofmphfaa
open Go.ChangeShapes Go.WideShapes Go.ChangeAt Go.RowKit
structure NdM where
  bd : Int
  at_ : Int
def NdM.cells (x : NdM) : List Value := [.int .i64 x.bd, .int .i64 x.at_]
def NdM.ok (x : NdM) : Prop := I64 x.bd ∧ I64 x.at_
theorem NdM.cells_length (x : NdM) : x.cells.length = 2 := rfl
abbrev NdM.val (x : NdM) : Value := .agg #[.int .i64 x.bd, .int .i64 x.at_]
/-- a slice that reads as the list xs -/
def Nds (w : World) (S : Nat → Prop) (v : Value) (xs : List NdM) : Prop := Raw w S 2 v xs.length (xs.flatMap NdM.cells) ∧ ∀ x ∈ xs, x.ok
section
variable {S T : Nat → Prop} {w w' : World} {v : Value} {xs : List NdM}
theorem Nds.keep (h : Nds w S v xs) (g : Chg T w w') (hd : ∀ b, b < w.heap.size → S b → ¬ T b) : Nds w' S v xs := ⟨h.1.keep g hd, h.2⟩
theorem Nds.up (h : Nds w S v xs) (g : Up w w') : Nds w' S v xs := ⟨h.1.up g, h.2⟩
theorem Nds.alloc' (h : Nds w S v xs) (o : Obj) : Nds (w.alloc o) S v xs := h.up ((Chg.refl _ _).alloc o)
theorem Nds.mono (h : Nds w S v xs) (hs : ∀ b, b < w.heap.size → S b → T b) : Nds w T v xs := ⟨h.1.mono hs, h.2⟩
theorem Nds.shape (h : Nds w S v xs) : ∃ A c, v = .slice A xs.length c ∧ xs.length ≤ c ∧ c ≤ 9223372036854775807 ∧ (A = none → c = 0) := h.1.shape
theorem Nds.nil (w : World) (S : Nat → Prop) (c : Nat) (A : Option Addr) (hc : c ≤ 9223372036854775807) (hA : A = none → c = 0 := by simp) : Nds w S (.slice A 0 c) [] := ⟨Raw.nil w S 2 c A hc hA, by simp⟩
theorem Nds.at_ (h : Nds w S v xs) {i : Nat} (hi : i < xs.length) : ∃ b o c, v = .slice (some ⟨b, o, none⟩) xs.length c ∧ S b ∧ b < w.heap.size ∧
    ∀ j u, (xs[i].cells)[j]? = some u → w.cell? ⟨b, o + i * 2 + j, none⟩ = some u ∧ w.frozen? ⟨b, o + i * 2 + j, none⟩ = false := Raw.at_ NdM.cells_length h.1 hi
end
/-- a slice of the call's own, from block base on -/
def OwnNds (w : World) (base : Nat) (v : Value) (xs : List NdM) : Prop :=
  w.ownsRow base 102 2 v xs.length (xs.flatMap NdM.cells) ∧ ∀ x ∈ xs, x.ok
theorem OwnNds.nil (w : World) (base : Nat) : OwnNds w base (.slice none 0 0) [] := ⟨World.ownsRow_nil _ _ _ _, by simp⟩
theorem OwnNds.made (w : World) (base : Nat) (hb : base ≤ w.heap.size) : OwnNds (w.alloc (.cells #[] 102)) base (.slice (some ⟨w.heap.size, 0, none⟩) 0 0) [] :=
  ⟨World.ownsRow_made w _ 0 hb (by unfold Go.maxLen; omega) (by simp), by simp⟩
theorem OwnNds.alloc {w : World} {base : Nat} {v : Value} {xs : List NdM} (h : OwnNds w base v xs) (o : Obj) : OwnNds (w.alloc o) base v xs := ⟨h.1.alloc o, h.2⟩
theorem OwnNds.kept {w w' : World} {base : Nat} {v : Value} {xs : List NdM} {S : Nat → Prop} (h : OwnNds w base v xs) (k : Chg S w w') (hS : ∀ g, v.ownBlock = some g → ¬ S g) : OwnNds w' base v xs := by
  refine ⟨⟨h.1.1, ?_⟩, h.2⟩
  rcases h.1.2 with h2 | ⟨g, cap, cur, rfl, hg, hh, r⟩
  · exact Or.inl h2
  · exact Or.inr ⟨g, cap, cur, rfl, hg, (k.block g (Array.getElem?_eq_some_iff.1 hh).1 (hS g rfl)).trans hh, r⟩
theorem OwnNds.up {w w' : World} {base : Nat} {v : Value} {xs : List NdM} (h : OwnNds w base v xs) (k : Up w w') : OwnNds w' base v xs := h.kept k fun _ _ h => h
theorem OwnNds.rd {w : World} {base : Nat} {v : Value} {xs : List NdM} (h : OwnNds w base v xs) : Nds w (New base w.heap.size) v xs := ⟨Raw.of_own h.1, h.2⟩
theorem OwnNds.lt {w : World} {base : Nat} {v : Value} {xs : List NdM} (h : OwnNds w base v xs) {g : Nat} (hg : v.ownBlock = some g) : base ≤ g ∧ g < w.heap.size := h.1.lt g hg
theorem infoNds : (Try.prog.info? 102).map (fun i => (i.zero, i.size, i.bytes)) = some (some (NdM.mk 0 0).val, 2, 16) := by kernel_rfl
theorem cells_oneNds (x : NdM) : ∀ u ∈ x.cells, u.oneCell' = true := by
  intro u hu
  simp only [NdM.cells, List.mem_cons, List.not_mem_nil, or_false] at hu
  rcases hu with rfl | rfl <;> rfl
set_option maxRecDepth 100000 in
theorem wp_appendNds {w : World} {ops : Array Oper} {rest : List Oper} {o : Oper} {a : Act} {Q : Exit → Act → World → Prop} (hgd : o.guard = none) (s x : Operand)
    (ho : o.op = .call { callee := .builtin .append, args := #[s, x], argTypes := #[219, 219] })
    (base : Nat) (v : Value) (xs : List NdM) (hs : a.eval s = v) (hown : OwnNds w base v xs)
    (S : Nat → Prop) (u : Value) (ys : List NdM) (hx : a.eval x = u) (hsrc : Nds w S u ys) (hlen : xs.length + ys.length ≤ 1099511627776) (hbase : base ≤ w.heap.size)
    (h : ∀ v' w', OwnNds w' base v' (xs ++ ys) → w.grownBy w' v.ownBlock → Chg (fun k => base ≤ k) w w' → wpList Try.prog ops Q rest (a.put o.dst v') w') : wpList Try.prog ops Q (o :: rest) a w := by
  obtain ⟨i0, hi, hz0, hz1, hz2⟩ := info_parts infoNds
  obtain ⟨⟨hl, A, c, rfl, hlc, hcm, hr, hnn⟩, hok⟩ := hsrc
  have hok' : ∀ y ∈ xs ++ ys, y.ok := fun y hy => (List.mem_append.1 hy).elim (hown.2 y) (hok y)
  cases A with
  | none =>
    have hy : ys = [] := by
      rcases Nat.eq_zero_or_pos ys.length with h0 | h0
      · exact List.eq_nil_of_length_eq_zero h0
      · obtain ⟨b, oo, h1, _⟩ := hr h0
        cases h1
    subst hy
    obtain rfl := hnn rfl
    refine wpList_append_own_none hgd s x 219 ho base 102 i0 2 Try.underlying219 hi v xs.length _ hs hown.1 hx ?_
    exact h v w (by simpa using hown) (World.grownBy.refl w _) (Chg.refl _ _)
  | some ad =>
    have hnews : ∀ j q, (ys.flatMap NdM.cells)[j]? = some q → w.cell? (ad.add j) = some q := by
      intro j q hq
      obtain ⟨hj, he⟩ := List.getElem?_eq_some_iff.1 hq
      have hp : 0 < ys.length := by
        rcases Nat.eq_zero_or_pos ys.length with h0 | h0
        · rw [List.eq_nil_of_length_eq_zero h0] at hj; simp at hj
        · exact h0
      obtain ⟨b, oo, h1, _, _, hc⟩ := hr hp
      injection h1 with h1
      subst h1
      have := (hc j hj).1
      rw [he] at this
      rw [← this]
      unfold Addr.add
      by_cases h0 : j = 0 <;> simp [h0]
    refine wpList_append_own (P := Try.prog) w hgd s x 219 ho base 102 i0 _ 2 16 Try.underlying219 hi hz0 hz1 hz2 rfl (by decide) v xs.length _ hs hown.1 ad ys.length c (ys.flatMap NdM.cells) hx hl hnews ?_ ?_ ?_ hbase ?_
    · intro q hq
      obtain ⟨y, _, hy⟩ := List.mem_flatMap.1 hq
      exact cells_oneNds y q hy
    · unfold Go.maxLen; omega
    · omega
    · intro v' w' h2 h3 _
      exact h v' w' ⟨by simpa using h2, hok'⟩ h3 ((Chg.refl _ _).grown h3 fun k hk => .inl (hown.1.lt k hk).1)
set_option maxRecDepth 100000 in
/-- the same at a step of a region that draws its order -/
theorem step_appendNds {w : World} {ops : Array Oper} {o : Oper} {a : Act} {K : Act → World → Prop} {Q : Exit → Act → World → Prop} {E : Prop} (hgd : o.guard = none) (s x : Operand)
    (ho : o.op = .call { callee := .builtin .append, args := #[s, x], argTypes := #[219, 219] })
    (base : Nat) (v : Value) (xs : List NdM) (hs : a.eval s = v) (hown : OwnNds w base v xs)
    (S : Nat → Prop) (u : Value) (ys : List NdM) (hx : a.eval x = u) (hsrc : Nds w S u ys) (hlen : xs.length + ys.length ≤ 1099511627776) (hbase : base ≤ w.heap.size)
    (h : ∀ v' w', OwnNds w' base v' (xs ++ ys) → w.grownBy w' v.ownBlock → Chg (fun k => base ≤ k) w w' → K (a.put o.dst v') w') :
    if Region.wanted o (yielded ops a.tmps) = true then Oper.wp Try.prog o a w K Q else E := by
  have hw : Region.wanted o (yielded ops a.tmps) = true := by simp [Region.wanted, hgd]
  rw [if_pos hw]
  obtain ⟨i0, hi, hz0, hz1, hz2⟩ := info_parts infoNds
  obtain ⟨⟨hl, A, c, rfl, hlc, hcm, hr, hnn⟩, hok⟩ := hsrc
  have hok' : ∀ y ∈ xs ++ ys, y.ok := fun y hy => (List.mem_append.1 hy).elim (hown.2 y) (hok y)
  cases A with
  | none =>
    have hy : ys = [] := by
      rcases Nat.eq_zero_or_pos ys.length with h0 | h0
      · exact List.eq_nil_of_length_eq_zero h0
      · obtain ⟨b, oo, h1, _⟩ := hr h0
        cases h1
    subst hy
    obtain rfl := hnn rfl
    have hrun := run_append_owned_none (P := Try.prog) (w := w) base 219 o.type 102 i0 2 Try.underlying219 hi v xs.length _ hown.1
    have hK := h v w (by simpa using hown) (World.grownBy.refl w _) (Chg.refl _ _)
    unfold Oper.wp
    simp [execOp, ho, resolve, invoke, builtin, hs, hx, hrun, Result.andThen]
    exact hK
  | some ad =>
    have hnews : ∀ j q, (ys.flatMap NdM.cells)[j]? = some q → w.cell? (ad.add j) = some q := by
      intro j q hq
      obtain ⟨hj, he⟩ := List.getElem?_eq_some_iff.1 hq
      have hp : 0 < ys.length := by
        rcases Nat.eq_zero_or_pos ys.length with h0 | h0
        · rw [List.eq_nil_of_length_eq_zero h0] at hj; simp at hj
        · exact h0
      obtain ⟨b, oo, h1, _, _, hc⟩ := hr hp
      injection h1 with h1
      subst h1
      have := (hc j hj).1
      rw [he] at this
      rw [← this]
      unfold Addr.add
      by_cases h0 : j = 0 <;> simp [h0]
    refine wp_append_own (P := Try.prog) w s x 219 ho base 102 i0 _ 2 16 Try.underlying219 hi hz0 hz1 hz2 rfl (by decide) v xs.length _ hs hown.1 ad ys.length c (ys.flatMap NdM.cells) hx hl hnews ?_ ?_ ?_ hbase ?_
    · intro q hq
      obtain ⟨y, _, hy⟩ := List.mem_flatMap.1 hq
      exact cells_oneNds y q hy
    · unfold Go.maxLen; omega
    · omega
    · intro v' w' h2 h3 _
      exact h v' w' ⟨by simpa using h2, hok'⟩ h3 ((Chg.refl _ _).grown h3 fun k hk => .inl (hown.1.lt k hk).1)
theorem wp_append1Nds {w : World} {ops : Array Oper} {rest : List Oper} {o : Oper} {a : Act} {Q : Exit → Act → World → Prop} (hgd : o.guard = none) (s x : Operand)
    (ho : o.op = .call { callee := .builtin .append, args := #[s, x], argTypes := #[219, 219] })
    (base : Nat) (v : Value) (xs : List NdM) (hs : a.eval s = v) (hown : OwnNds w base v xs)
    (g : Nat) (y : NdM) (hx : a.eval x = .slice (some ⟨g, 0, none⟩) 1 1) (hh : w.heap[g]? = some (.cells y.cells.toArray 102 (0, 0))) (hy : y.ok) (hlen : xs.length ≤ 1099511627775) (hbase : base ≤ w.heap.size)
    (h : ∀ v' w', OwnNds w' base v' (xs ++ [y]) → w.grownBy w' v.ownBlock → Chg (fun k => base ≤ k) w w' → wpList Try.prog ops Q rest (a.put o.dst v') w') : wpList Try.prog ops Q (o :: rest) a w :=
  wp_appendNds hgd s x ho base v xs hs hown (fun _ => True) _ [y] hx ⟨Raw.of_block hh (by simp) trivial rfl (by simp) (by omega), by simpa using hy⟩ (by simp; omega) hbase h
end Go.Proofs.Ytchfjglofmphfaa
section
set_option linter.unusedSimpArgs false
set_option linter.unusedVariables false
namespace Go.Proofs.Ytchfjglofmphfaa
open Go.ChangeShapes Go.WideShapes Go.ChangeAt Go.RowKit
def gF (N : Nat) (x : Int) : List NdM := if 0 ≤ x ∧ x < N then [⟨1, x⟩] else []
def gB (N : Nat) (k : Int) : List NdM := if 0 ≤ k ∧ k < N then [⟨2, k⟩] else []
def gO (N : Nat) (r x : Int) : List NdM := gF N x ++ gB N (x - r)
def gU (N : Nat) (r x : Int) : List NdM := gF N (x + 1) ++ gB N (x - r)
def gD (N : Nat) (r x : Int) : List NdM := gB N (x - r) ++ gF N x
/-- what stands on n places from lo on -/
def onPl (g : Int → List NdM) (lo : Int) : Nat → List NdM
  | 0 => []
  | n + 1 => onPl g lo n ++ g (lo + n)
theorem onPl_first (g : Int → List NdM) : ∀ (n : Nat) (lo : Int), onPl g lo (n + 1) = g lo ++ onPl g (lo + 1) n
  | 0, lo => by simp [onPl]
  | n + 1, lo => by
    rw [onPl, onPl_first g n lo, onPl, List.append_assoc]
    congr 2
    congr 1
    omega
theorem onPl_add (g : Int → List NdM) (lo : Int) : ∀ (m n : Nat), onPl g lo (m + n) = onPl g lo m ++ onPl g (lo + m) n
  | m, 0 => by simp [onPl]
  | m, n + 1 => by
    rw [← Nat.add_assoc, onPl, onPl_add g lo m n, onPl, List.append_assoc]
    congr 3
    omega
def needlesM (N : Nat) (r : Int) : List NdM := onPl (gO N r) (-3) (N + 6)
def preU (N : Nat) (r : Int) (i : Nat) : List NdM := onPl (gU N r) (-3) (i + 2)
def preD (N : Nat) (r : Int) (i : Nat) : List NdM := onPl (gD N r) (-3) (i + 3)
def ordU (N : Nat) (r : Int) (i : Nat) : List NdM := preU N r i ++ (gB N (i - 1 - r) ++ onPl (gO N r) i (N + 3 - i))
def ordD (N : Nat) (r : Int) (i : Nat) : List NdM := preD N r i ++ onPl (gO N r) i (N + 3 - i)
theorem gF_neg {N : Nat} {x : Int} (h : x < 0) : gF N x = [] := by unfold gF; rw [if_neg (by omega)]
theorem gF_at {N i : Nat} (h : i < N) : gF N i = [⟨1, i⟩] := by unfold gF; rw [if_pos (by omega)]
theorem gB_no {N : Nat} {k : Int} (h : ¬ (0 ≤ k ∧ k < N)) : gB N k = [] := by unfold gB; rw [if_neg h]
theorem gB_at {N : Nat} {k : Int} (h : 0 ≤ k ∧ k < N) : gB N k = [⟨2, k⟩] := by unfold gB; rw [if_pos h]
theorem onPl_two (g : Int → List NdM) : onPl g (-3) 2 = g (-3) ++ g (-2) := by simp [onPl]
theorem onPl_three (g : Int → List NdM) : onPl g (-3) 3 = g (-3) ++ (g (-2) ++ g (-1)) := by simp [onPl]
theorem ordU_start (N : Nat) (r : Int) : ordU N r 0 = needlesM N r := by
  unfold ordU preU needlesM
  rw [show N + 6 = 3 + (N + 3) by omega, onPl_add (gO N r) (-3) 3 (N + 3), onPl_three (gO N r), show 0 + 2 = 2 from rfl, onPl_two]
  unfold gU gO
  rw [gF_neg (x := -3 + 1) (by omega), gF_neg (x := -2 + 1) (by omega), gF_neg (x := -3) (by omega), gF_neg (x := -2) (by omega), gF_neg (x := -1) (by omega)]
  simp only [List.nil_append, List.append_assoc]
  rfl
theorem ordD_start (N : Nat) (r : Int) : ordD N r 0 = needlesM N r := by
  unfold ordD preD needlesM
  rw [show N + 6 = 3 + (N + 3) by omega, onPl_add (gO N r) (-3) 3 (N + 3), onPl_three (gO N r), show 0 + 3 = 3 from rfl, onPl_three (gD N r)]
  unfold gD gO
  rw [gF_neg (x := -3) (by omega), gF_neg (x := -2) (by omega), gF_neg (x := -1) (by omega)]
  simp only [List.nil_append, List.append_nil, List.append_assoc]
  rfl
def restO (N : Nat) (r : Int) (i : Nat) : List NdM := gB N (i - r) ++ onPl (gO N r) (i + 1) (N + 2 - i)
theorem rest_eq {N i : Nat} (r : Int) (h : i < N) : onPl (gO N r) i (N + 3 - i) = ⟨1, i⟩ :: restO N r i := by
  obtain ⟨m, hm⟩ : ∃ m, N + 3 - i = m + 1 := ⟨N + 2 - i, by omega⟩
  rw [hm, onPl_first, gO, gF_at h, show m = N + 2 - i by omega]
  rfl
theorem ordU_at {N i : Nat} (r : Int) (h : i < N) : ordU N r i = preU N r i ++ (gB N (i - 1 - r) ++ ⟨1, i⟩ :: restO N r i) := by unfold ordU; rw [rest_eq r h]
theorem ordU_next {N i : Nat} (r : Int) (h : i < N) : ordU N r (i + 1) = preU N r i ++ (⟨1, i⟩ :: (gB N (i - 1 - r) ++ restO N r i)) := by
  have e : preU N r (i + 1) = preU N r i ++ (⟨1, i⟩ :: gB N (i - 1 - r)) := by
    unfold preU
    rw [show i + 1 + 2 = (i + 2) + 1 by omega, onPl, gU, show (-3 : Int) + ((i + 2 : Nat) : Int) + 1 = (i : Int) by omega, show (-3 : Int) + ((i + 2 : Nat) : Int) - r = (i : Int) - 1 - r by omega, gF_at h]
    rfl
  unfold ordU restO
  rw [e, show ((i + 1 : Nat) : Int) - 1 - r = (i : Int) - r by omega, show N + 3 - (i + 1) = N + 2 - i by omega]
  simp only [List.append_assoc, List.cons_append]
  rfl
theorem ordD_at {N i : Nat} (r : Int) (h : i < N) : ordD N r i = preD N r i ++ (⟨1, i⟩ :: restO N r i) := by unfold ordD; rw [rest_eq r h]
theorem ordD_next {N i : Nat} (r : Int) (h : i < N) : ordD N r (i + 1) = preD N r i ++ (gB N (i - r) ++ (⟨1, i⟩ :: onPl (gO N r) (i + 1) (N + 2 - i))) := by
  have e : preD N r (i + 1) = preD N r i ++ (gB N (i - r) ++ [⟨1, i⟩]) := by
    unfold preD
    rw [show i + 1 + 3 = (i + 3) + 1 by omega, onPl, gD, show (-3 : Int) + ((i + 3 : Nat) : Int) = (i : Int) by omega, gF_at h]
  unfold ordD
  rw [e, show N + 3 - (i + 1) = N + 2 - i by omega]
  simp only [List.append_assoc, List.cons_append, List.nil_append]
  rfl
theorem mem_onPl {g : Int → List NdM} {lo : Int} {x : NdM} : ∀ {n : Nat}, x ∈ onPl g lo n → ∃ t : Nat, t < n ∧ x ∈ g (lo + t)
  | 0, h => by simp [onPl] at h
  | n + 1, h => by
    rcases List.mem_append.1 h with h | h
    · obtain ⟨t, h1, h2⟩ := mem_onPl h
      exact ⟨t, by omega, h2⟩
    · exact ⟨n, by omega, h⟩
theorem mem_gF {N : Nat} {x : Int} {y : NdM} (h : y ∈ gF N x) : y = ⟨1, x⟩ ∧ 0 ≤ x ∧ x < N := by
  unfold gF at h
  split at h
  · rename_i c; exact ⟨by simpa using h, c⟩
  · simp at h
theorem mem_gB {N : Nat} {x : Int} {y : NdM} (h : y ∈ gB N x) : y = ⟨2, x⟩ ∧ 0 ≤ x ∧ x < N := by
  unfold gB at h
  split at h
  · rename_i c; exact ⟨by simpa using h, c⟩
  · simp at h
/-- needles ahead: fronts below i, backs below k -/
theorem mem_preU {N i : Nat} {r : Int} {y : NdM} (h : y ∈ preU N r i) : (y.bd = 1 ∧ 0 ≤ y.at_ ∧ y.at_ < i ∧ y.at_ < N) ∨ (y.bd = 2 ∧ 0 ≤ y.at_ ∧ y.at_ < N ∧ y.at_ < i - 1 - r) := by
  obtain ⟨t, h1, h2⟩ := mem_onPl h
  rcases List.mem_append.1 h2 with h2 | h2
  · obtain ⟨rfl, h3, h4⟩ := mem_gF h2
    exact .inl ⟨rfl, h3, by simp only; omega, h4⟩
  · obtain ⟨rfl, h3, h4⟩ := mem_gB h2
    exact .inr ⟨rfl, h3, h4, by simp only; omega⟩
theorem mem_preD {N i : Nat} {r : Int} {y : NdM} (h : y ∈ preD N r i) : (y.bd = 1 ∧ 0 ≤ y.at_ ∧ y.at_ < i ∧ y.at_ < N) ∨ (y.bd = 2 ∧ 0 ≤ y.at_ ∧ y.at_ < N ∧ y.at_ < i - r) := by
  obtain ⟨t, h1, h2⟩ := mem_onPl h
  rcases List.mem_append.1 h2 with h2 | h2
  · obtain ⟨rfl, h3, h4⟩ := mem_gB h2
    exact .inr ⟨rfl, h3, h4, by simp only; omega⟩
  · obtain ⟨rfl, h3, h4⟩ := mem_gF h2
    exact .inl ⟨rfl, h3, by simp only; omega, h4⟩
theorem mem_restO {N i : Nat} {r : Int} {y : NdM} (h : y ∈ restO N r i) : (y.bd = 1 ∧ (i : Int) < y.at_ ∧ y.at_ < N) ∨ (y.bd = 2 ∧ 0 ≤ y.at_ ∧ y.at_ < N ∧ i - r ≤ y.at_) := by
  rcases List.mem_append.1 h with h | h
  · obtain ⟨rfl, h3, h4⟩ := mem_gB h
    exact .inr ⟨rfl, h3, h4, by simp only; omega⟩
  · obtain ⟨t, h1, h2⟩ := mem_onPl h
    rcases List.mem_append.1 h2 with h2 | h2
    · obtain ⟨rfl, h3, h4⟩ := mem_gF h2
      exact .inl ⟨rfl, by simp only; omega, h4⟩
    · obtain ⟨rfl, h3, h4⟩ := mem_gB h2
      exact .inr ⟨rfl, h3, h4, by simp only; omega⟩
/-- how many loops lie on a needle -/
def lenN (p : MacM) (y : NdM) : Nat := if y.bd = 2 then lenB p y.at_.toNat else lenF p y.at_.toNat
def sumN (p : MacM) (ys : List NdM) : Nat := (ys.map (lenN p)).sum
theorem sumN_nil (p : MacM) : sumN p [] = 0 := rfl
theorem sumN_app (p : MacM) (xs ys : List NdM) : sumN p (xs ++ ys) = sumN p xs + sumN p ys := by simp [sumN]
theorem sumN_one (p : MacM) (y : NdM) : sumN p [y] = lenN p y := by simp [sumN]
theorem sumN_take {p : MacM} {xs : List NdM} {j : Nat} (h : j < xs.length) : sumN p (xs.take (j + 1)) = sumN p (xs.take j) + lenN p xs[j] := by
  rw [List.take_succ_eq_append_getElem h, sumN_app, sumN_one]
theorem sumN_gF {p : MacM} {N : Nat} (hN : p.fr.length = N) (x : Int) : preL p.fr x.toNat + sumN p (gF N x) = preL p.fr (x + 1).toNat := by
  unfold gF
  split
  · rename_i c
    rw [sumN_one, show (x + 1).toNat = x.toNat + 1 by omega, preL_succ (show x.toNat < p.fr.length by omega)]
    unfold lenN lenF
    rw [if_neg (by simp), getD_eq (show (x : Int).toNat < p.fr.length by omega)]
  · rename_i c
    rw [sumN_nil, Nat.add_zero]
    by_cases h : x < 0
    · rw [show x.toNat = 0 by omega, show (x + 1).toNat = 0 by omega]
    · rw [preL_over (show p.fr.length ≤ x.toNat by omega), preL_over (show p.fr.length ≤ (x + 1).toNat by omega)]
theorem sumN_gB {p : MacM} {N : Nat} (hN : p.bk.length = N) (x : Int) : preL p.bk x.toNat + sumN p (gB N x) = preL p.bk (x + 1).toNat := by
  unfold gB
  split
  · rename_i c
    rw [sumN_one, show (x + 1).toNat = x.toNat + 1 by omega, preL_succ (show x.toNat < p.bk.length by omega)]
    unfold lenN lenB
    rw [if_pos rfl, getD_eq (show (x : Int).toNat < p.bk.length by omega)]
  · rename_i c
    rw [sumN_nil, Nat.add_zero]
    by_cases h : x < 0
    · rw [show x.toNat = 0 by omega, show (x + 1).toNat = 0 by omega]
    · rw [preL_over (show p.bk.length ≤ x.toNat by omega), preL_over (show p.bk.length ≤ (x + 1).toNat by omega)]
theorem sumN_U {p : MacM} {N : Nat} (h1 : p.fr.length = N) (h2 : p.bk.length = N) {r : Int} (hr : -3 ≤ r) : ∀ n : Nat, sumN p (onPl (gU N r) (-3) n) = preL p.fr ((n : Int) - 2).toNat + preL p.bk ((n : Int) - 3 - r).toNat
  | 0 => by
    rw [show ((0 : Nat) : Int) - 2 = -2 by omega, show ((-2 : Int)).toNat = 0 by rfl, show (((0 : Nat) : Int) - 3 - r).toNat = 0 by omega, preL_zero, preL_zero]
    rfl
  | n + 1 => by
    have e1 := sumN_gF h1 ((n : Int) - 2)
    have e2 := sumN_gB h2 ((n : Int) - 3 - r)
    rw [onPl, sumN_app, sumN_U h1 h2 hr n, gU, sumN_app, show (-3 : Int) + n + 1 = (n : Int) - 2 by omega, show (-3 : Int) + n - r = (n : Int) - 3 - r by omega]
    rw [show ((n + 1 : Nat) : Int) - 2 = (n : Int) - 2 + 1 by omega, show ((n + 1 : Nat) : Int) - 3 - r = (n : Int) - 3 - r + 1 by omega]
    omega
theorem sumN_D {p : MacM} {N : Nat} (h1 : p.fr.length = N) (h2 : p.bk.length = N) {r : Int} (hr : -3 ≤ r) : ∀ n : Nat, sumN p (onPl (gD N r) (-3) n) = preL p.fr ((n : Int) - 3).toNat + preL p.bk ((n : Int) - 3 - r).toNat
  | 0 => by
    rw [show ((0 : Nat) : Int) - 3 = -3 by omega, show ((-3 : Int)).toNat = 0 by rfl, show ((-3 : Int) - r).toNat = 0 by omega, preL_zero, preL_zero]
    rfl
  | n + 1 => by
    have e1 := sumN_gF h1 ((n : Int) - 3)
    have e2 := sumN_gB h2 ((n : Int) - 3 - r)
    rw [onPl, sumN_app, sumN_D h1 h2 hr n, gD, sumN_app, show (-3 : Int) + n = (n : Int) - 3 by omega]
    rw [show ((n + 1 : Nat) : Int) - 3 = (n : Int) - 3 + 1 by omega, show (n : Int) - 3 + 1 - r = (n : Int) - 3 - r + 1 by omega]
    omega
theorem sum_preU {p : MacM} {N : Nat} (h1 : p.fr.length = N) (h2 : p.bk.length = N) {r : Int} (hr : -3 ≤ r) (i : Nat) : (sumN p (preU N r i) : Int) = befM p i (i - 1 - r) := by
  unfold preU befM
  rw [sumN_U h1 h2 hr, show ((i + 2 : Nat) : Int) - 2 = i by omega, show ((i + 2 : Nat) : Int) - 3 - r = (i : Int) - 1 - r by omega]
  omega
theorem sum_preD {p : MacM} {N : Nat} (h1 : p.fr.length = N) (h2 : p.bk.length = N) {r : Int} (hr : -3 ≤ r) (i : Nat) : (sumN p (preD N r i) : Int) = befM p i (i - r) := by
  unfold preD befM
  rw [sumN_D h1 h2 hr, show ((i + 3 : Nat) : Int) - 3 = i by omega]
  omega
theorem onPl_length {g : Int → List NdM} {lo : Int} (h : ∀ x, (g x).length ≤ 2) : ∀ n, (onPl g lo n).length ≤ 2 * n
  | 0 => by simp [onPl]
  | n + 1 => by
    rw [onPl, List.length_append]
    have := onPl_length (lo := lo) h n
    have := h (lo + n)
    omega
theorem gF_length (N : Nat) (x : Int) : (gF N x).length ≤ 1 := by unfold gF; split <;> simp
theorem gB_length (N : Nat) (x : Int) : (gB N x).length ≤ 1 := by unfold gB; split <;> simp
end Go.Proofs.Ytchfjglofmphfaa
end
section
set_option linter.unusedSimpArgs false
set_option linter.unusedVariables false
set_option maxRecDepth 100000
set_option maxHeartbeats 1000000
namespace Go.Proofs.Ytchfjglofmphfaa
open Go.ChangeShapes Go.WideShapes Go.ChangeAt Go.RowKit
structure NormM where
  n : Int
  p : Int
  fs : List (List Int)
def NormE (M H L : Nat → Prop) (w : World) (vs : List Value) (x : NormM) : Prop := ∃ A c, vs = [.int .i64 x.n, .int .i64 x.p, .slice A x.fs.length c] ∧ IntSSV w M H L (.slice A x.fs.length c) x.fs ∧ (x.fs.length ≤ c ∧ c ≤ 9223372036854775807) ∧ I64 x.n ∧ I64 x.p
theorem NormE.keep {M H L T : Nat → Prop} {w w' : World} {vs : List Value} {x : NormM} (h : NormE M H L w vs x) (g : Chg T w w') (hd : ∀ b, M b ∨ H b ∨ L b → ¬ T b) : NormE M H L w' vs x := let ⟨A, c, he, h0, h1, h2, h3⟩ := h; ⟨A, c, he, h0.keep g hd, h1, h2, h3⟩
theorem NormE.up {M H L : Nat → Prop} {w w' : World} {vs : List Value} {x : NormM} (h : NormE M H L w vs x) (g : Up w w') : NormE M H L w' vs x := h.keep g fun _ _ h => h
theorem NormE.mono {M H L M' H' L' : Nat → Prop} {w : World} {vs : List Value} {x : NormM} (h : NormE M H L w vs x) (hm : ∀ b, b < w.heap.size → M b → M' b) (hr : ∀ b, b < w.heap.size → H b → H' b) (hl : ∀ b, b < w.heap.size → L b → L' b) : NormE M' H' L' w vs x := let ⟨A, c, he, h0, h1, h2, h3⟩ := h; ⟨A, c, he, h0.mono hm hr hl, h1, h2, h3⟩
def NormV (w : World) (M H L : Nat → Prop) (v : Value) (x : NormM) : Prop := ∃ A c, v = .agg #[.int .i64 x.n, .int .i64 x.p, .slice A x.fs.length c] ∧ IntSSV w M H L (.slice A x.fs.length c) x.fs ∧ (x.fs.length ≤ c ∧ c ≤ 9223372036854775807) ∧ I64 x.n ∧ I64 x.p
theorem NormV.keep {M H L T : Nat → Prop} {w w' : World} {v : Value} {x : NormM} (h : NormV w M H L v x) (g : Chg T w w') (hd : ∀ b, M b ∨ H b ∨ L b → ¬ T b) : NormV w' M H L v x := let ⟨A, c, he, h0, h1, h2, h3⟩ := h; ⟨A, c, he, h0.keep g hd, h1, h2, h3⟩
theorem NormV.up {M H L : Nat → Prop} {w w' : World} {v : Value} {x : NormM} (h : NormV w M H L v x) (g : Up w w') : NormV w' M H L v x := h.keep g fun _ _ h => h
theorem NormV.mono {M H L M' H' L' : Nat → Prop} {w : World} {v : Value} {x : NormM} (h : NormV w M H L v x) (hm : ∀ b, b < w.heap.size → M b → M' b) (hr : ∀ b, b < w.heap.size → H b → H' b) (hl : ∀ b, b < w.heap.size → L b → L' b) : NormV w M' H' L' v x := let ⟨A, c, he, h0, h1, h2, h3⟩ := h; ⟨A, c, he, h0.mono hm hr hl, h1, h2, h3⟩
theorem NormE.val {M H L : Nat → Prop} {w : World} {vs : List Value} {x : NormM} (h : NormE M H L w vs x) : ∃ A c, vs = [.int .i64 x.n, .int .i64 x.p, .slice A x.fs.length c] ∧ NormV w M H L (.agg #[.int .i64 x.n, .int .i64 x.p, .slice A x.fs.length c]) x :=
  let ⟨A, c, he, h0, h1, h2, h3⟩ := h; ⟨A, c, he, A, c, rfl, h0, h1, h2, h3⟩
theorem NormV.val {M H L : Nat → Prop} {w : World} {v : Value} {x : NormM} (h : NormV w M H L v x) : ∃ A c, v = .agg #[.int .i64 x.n, .int .i64 x.p, .slice A x.fs.length c] ∧ NormV w M H L (.agg #[.int .i64 x.n, .int .i64 x.p, .slice A x.fs.length c]) x := by
  obtain ⟨A, c, rfl, h0, h1, h2, h3⟩ := h
  exact ⟨_, _, rfl, _, _, rfl, h0, h1, h2, h3⟩
theorem NormV.parts {M H L : Nat → Prop} {w : World} {v : Value} {x : NormM} (h : NormV w M H L v x) : ∃ A c, v = .agg #[.int .i64 x.n, .int .i64 x.p, .slice A x.fs.length c] ∧ IntSSV w M H L (.slice A x.fs.length c) x.fs ∧ (x.fs.length ≤ c ∧ c ≤ 9223372036854775807) ∧ I64 x.n ∧ I64 x.p := h
theorem NormE.mk {M H L : Nat → Prop} {w : World} {x : NormM} {B : Option Addr} {d : Nat} (h : NormV w M H L (.agg #[.int .i64 x.n, .int .i64 x.p, .slice B x.fs.length d]) x) : NormE M H L w [.int .i64 x.n, .int .i64 x.p, .slice B x.fs.length d] x := by
  obtain ⟨A, c, he, h0, h1, h2, h3⟩ := h
  simp only [Value.agg.injEq, Array.mk.injEq, List.cons.injEq, Value.slice.injEq, true_and, and_true] at he
  obtain ⟨rfl, rfl⟩ := he
  exact ⟨_, _, rfl, h0, h1, h2, h3⟩
def NormSV (w : World) (M H L : Nat → Prop) (v : Value) (xs : List NormM) : Prop := Nst 3 (NormE M H L) w M v xs
theorem NormSV.keep {M H L T : Nat → Prop} {w w' : World} {v : Value} {xs : List NormM} (h : NormSV w M H L v xs) (g : Chg T w w') (hd : ∀ b, M b ∨ H b ∨ L b → ¬ T b) : NormSV w' M H L v xs :=
  Nst.keep h (fun _ _ k => NormE.keep k g hd) g (fun b _ h => hd b (.inl h))
theorem NormSV.up {M H L : Nat → Prop} {w w' : World} {v : Value} {xs : List NormM} (h : NormSV w M H L v xs) (g : Up w w') : NormSV w' M H L v xs := h.keep g fun _ _ h => h
theorem NormSV.mono {M H L M' H' L' : Nat → Prop} {w : World} {v : Value} {xs : List NormM} (h : NormSV w M H L v xs) (hm : ∀ b, b < w.heap.size → M b → M' b) (hr : ∀ b, b < w.heap.size → H b → H' b) (hl : ∀ b, b < w.heap.size → L b → L' b) : NormSV w M' H' L' v xs :=
  Nst.mono h (fun _ _ k => NormE.mono k hm hr hl) hm
theorem NormSV.shape {M H L : Nat → Prop} {w : World} {v : Value} {xs : List NormM} (h : NormSV w M H L v xs) : ∃ A c, v = .slice A xs.length c ∧ xs.length ≤ c ∧ c ≤ 9223372036854775807 ∧ (A = none → c = 0) := Nst.shape h
theorem NormSV.at_ {M H L : Nat → Prop} {w : World} {v : Value} {xs : List NormM} (h : NormSV w M H L v xs) {i : Nat} (hi : i < xs.length) : ∃ b o c vs, v = .slice (some ⟨b, o, none⟩) xs.length c ∧ M b ∧ b < w.heap.size ∧ vs.length = 3 ∧ NormE M H L w vs xs[i] ∧
    ∀ j u, vs[j]? = some u → w.cell? ⟨b, o + i * 3 + j, none⟩ = some u ∧ w.frozen? ⟨b, o + i * 3 + j, none⟩ = false := Nst.at_ h hi
theorem eqNorm_same (w : World) (M H L M' H' L' : Nat → Prop) (v u : Value) (x : NormM) (hv : NormV w M H L v x) (hu : NormV w M' H' L' u x) :
    Calls Try.prog 156 #[v, u] w fun e w' => e = .returned (.bool true) ∧ Up w w' := by
  obtain ⟨A, c, rfl, h0, h1, h2, h3⟩ := hv
  obtain ⟨B, d, rfl, g0, g1, g2, g3⟩ := hu
  have U0 := Lib.hid (show Up w ((w.alloc (.cells #[.int .i64 x.n, .int .i64 x.p, .slice A x.fs.length c] 151)).alloc (.cells #[.int .i64 x.n, .int .i64 x.p, .slice B x.fs.length d] 151)) from (by repeat (first | exact Chg.refl _ _ | apply Chg.drew | apply Chg.drewN | refine Chg.alloc ?_ _)))
  have H0 := Lib.hid (h0.up U0.out)
  have G0 := Lib.hid (g0.up U0.out)
  clear h0 h1 h2 h3 g0 g1 g2 g3
  have e0 : (x.n != x.n) = false := by simp
  have e1 : (x.p != x.p) = false := by simp
  have q0 := Chg.cell ((Chg.refl Nowhere (w.alloc (.cells #[.int .i64 x.n, .int .i64 x.p, .slice A x.fs.length c] 151))).alloc (.cells #[.int .i64 x.n, .int .i64 x.p, .slice B x.fs.length d] 151)) (show (w.alloc (.cells #[.int .i64 x.n, .int .i64 x.p, .slice A x.fs.length c] 151)).cell? ⟨w.heap.size, 0, none⟩ = some (.int .i64 x.n) from cell_new _ _ _ _) id
  have q1 := Chg.cell ((Chg.refl Nowhere (w.alloc (.cells #[.int .i64 x.n, .int .i64 x.p, .slice A x.fs.length c] 151))).alloc (.cells #[.int .i64 x.n, .int .i64 x.p, .slice B x.fs.length d] 151)) (show (w.alloc (.cells #[.int .i64 x.n, .int .i64 x.p, .slice A x.fs.length c] 151)).cell? ⟨w.heap.size, 1, none⟩ = some (.int .i64 x.p) from cell_new _ _ _ _) id
  have q2 := Chg.cell ((Chg.refl Nowhere (w.alloc (.cells #[.int .i64 x.n, .int .i64 x.p, .slice A x.fs.length c] 151))).alloc (.cells #[.int .i64 x.n, .int .i64 x.p, .slice B x.fs.length d] 151)) (show (w.alloc (.cells #[.int .i64 x.n, .int .i64 x.p, .slice A x.fs.length c] 151)).cell? ⟨w.heap.size, 2, none⟩ = some (.slice A x.fs.length c) from cell_new _ _ _ _) id
  have p0 := (show ((w.alloc (.cells #[.int .i64 x.n, .int .i64 x.p, .slice A x.fs.length c] 151)).alloc (.cells #[.int .i64 x.n, .int .i64 x.p, .slice B x.fs.length d] 151)).cell? ⟨w.heap.size + 1, 0, none⟩ = some (.int .i64 x.n) from (cellF_at (by simp) rfl).1)
  have p1 := (show ((w.alloc (.cells #[.int .i64 x.n, .int .i64 x.p, .slice A x.fs.length c] 151)).alloc (.cells #[.int .i64 x.n, .int .i64 x.p, .slice B x.fs.length d] 151)).cell? ⟨w.heap.size + 1, 1, none⟩ = some (.int .i64 x.p) from (cellF_at (by simp) rfl).1)
  have p2 := (show ((w.alloc (.cells #[.int .i64 x.n, .int .i64 x.p, .slice A x.fs.length c] 151)).alloc (.cells #[.int .i64 x.n, .int .i64 x.p, .slice B x.fs.length d] 151)).cell? ⟨w.heap.size + 1, 2, none⟩ = some (.slice B x.fs.length d) from (cellF_at (by simp) rfl).1)
  go_enter Try.func156, Try.ntmps156
  go_wp2_with fail
  refine (eqIntSSV_same _ M H L M' H' L' _ _ x.fs (H0.out.up (by repeat (first | exact Chg.refl _ _ | apply Chg.drew | apply Chg.drewN | refine Chg.alloc ?_ _))) (G0.out.up (by repeat (first | exact Chg.refl _ _ | apply Chg.drew | apply Chg.drewN | refine Chg.alloc ?_ _)))).mono ?_
  rintro e w1 ⟨rfl, g1⟩
  have GX := Lib.hid (Chg.trans (by repeat (first | exact Chg.refl _ _ | apply Chg.drew | apply Chg.drewN | refine Chg.alloc ?_ _)) g1)
  clear g1
  have U1 := Lib.hid (Chg.trans U0.out GX.out)
  clear U0
  have q0 := Chg.cell GX.out q0 id
  have p0 := Chg.cell GX.out p0 id
  have q1 := Chg.cell GX.out q1 id
  have p1 := Chg.cell GX.out p1 id
  have q2 := Chg.cell GX.out q2 id
  have p2 := Chg.cell GX.out p2 id
  clear GX
  go_wp2
  go_ret
  exact ⟨rfl, Chg.trans U1.out (by repeat (first | exact Chg.refl _ _ | apply Chg.drew | apply Chg.drewN | refine Chg.alloc ?_ _))⟩
theorem infoNormSV : (Try.prog.info? 151).map (fun i => (i.zero, i.size, i.bytes)) = some (some (.agg #[.int .i64 0, .int .i64 0, .slice none 0 0]), 3, 40) := by kernel_rfl
theorem eqNormSV_same (w : World) (M H L M' H' L' : Nat → Prop) (v u : Value) (xs : List (NormM)) (h : NormSV w M H L v xs) (h2 : NormSV w M' H' L' u xs) :
    Calls Try.prog 97 #[v, u] w fun e w' => e = .returned (.bool true) ∧ Up w w' := by
  obtain ⟨A, c, rfl, hlc, hcm, -⟩ := h.shape
  obtain ⟨A2, c2, rfl, hlc2, hcm2, -⟩ := h2.shape
  have H := Lib.hid h
  have H2 := Lib.hid h2
  clear h h2
  go_enter Try.func97, Try.ntmps97
  go_wp2
  go_loopw [5] (fun i wr => ∃ (j : Nat), j ≤ xs.length ∧ i = .int .i64 j ∧ Hid (Up w wr)) (fun i _ => xs.length - (intOf i).toNat)
  case atStart => exact ⟨0, by omega, rfl, Chg.refl _ _⟩
  case round =>
    obtain ⟨j, hj, rfl, hu⟩ := hrel
    by_cases hlt : j < xs.length
    · obtain ⟨b3, o3, c3', vs3, he3, -, -, -, hE3, hc3⟩ := (H.out.up hu.out).at_ hlt
      obtain ⟨rfl, rfl⟩ : A = some ⟨b3, o3, none⟩ ∧ c = c3' := by simpa using he3
      obtain ⟨A3, k3, rfl, hv3⟩ := NormE.val hE3
      have f0 := (hc3 0 _ rfl).1
      have f1 := (hc3 1 _ rfl).1
      have f2 := (hc3 2 _ rfl).1
      rw [Nat.add_zero] at f0
      have HV3 := Lib.hid hv3
      clear hc3 hv3 he3
      obtain ⟨b5, o5, c5', vs5, he5, -, -, -, hE5, hc5⟩ := (H2.out.up hu.out).at_ hlt
      obtain ⟨rfl, rfl⟩ : A2 = some ⟨b5, o5, none⟩ ∧ c2 = c5' := by simpa using he5
      obtain ⟨A5, k5, rfl, hv5⟩ := NormE.val hE5
      have e0 := (hc5 0 _ rfl).1
      have e1 := (hc5 1 _ rfl).1
      have e2 := (hc5 2 _ rfl).1
      rw [Nat.add_zero] at e0
      have HV5 := Lib.hid hv5
      clear hc5 hv5 he5
      go_wp2
      have qf0 := up_cell f0
      have qf1 := up_cell f1
      have qf2 := up_cell f2
      have qe0 := up_cell e0
      have qe1 := up_cell e1
      have qe2 := up_cell e2
      clear f0 f1 f2 e0 e1 e2
      refine wp_region_up (by kernel_rfl) (by kernel_rfl) ?_
      repeat (go_big_quiet_step (first | (go_at_call 156; with_reducible exact calls_up (eqNorm_same _ _ _ _ _ _ _ _ _ _ (HV3.out.up (UpOf.up _)) (HV5.out.up (UpOf.up _))))))
      refine wpQuiet_nil ?_
      rintro _ ⟨u, rfl⟩
      go_wp2
      go_roundw
      case rel => exact ⟨j + 1, by omega, by go_num, Lib.hid (Chg.trans hu.out u.up)⟩
      case measure => first | (simp [intOf]; done) | (simp [intOf]; omega)
    · obtain rfl : j = xs.length := by omega
      go_wp2
      go_ret
      exact ⟨rfl, hu.out⟩
end Go.Proofs.Ytchfjglofmphfaa
end
namespace Go.Proofs.Ytchfjglofmphfaa
open Go.ChangeShapes Go.WideShapes Go.ChangeAt Go.RowKit
theorem szEvs_ok (w : World) (S : Nat → Prop) (v : Value) (xs : List EvM) (k : Int) (hk : 0 ≤ k ∧ k ≤ 1048576) (hl : (xs.length : Int) ≤ k) (h : Evs w S v xs) :
    Calls Try.prog 35 #[v, .int .i64 k] w fun e w' => e = .returned (.int .i64 (k - xs.length)) ∧ w = w' := by
  obtain ⟨A, c, rfl, hlc, hcm, -⟩ := h.shape
  clear h
  have hd : decide (k - (xs.length : Int) < 0) = false := decide_eq_false (by omega)
  go_enter Try.func35, Try.ntmps35
  go_wp2
  go_ret
  exact ⟨rfl, rfl⟩
theorem szEvs_no (w : World) (S : Nat → Prop) (v : Value) (xs : List EvM) (k : Int) (hk : 0 ≤ k ∧ k ≤ 1048576) (hl : k < (xs.length : Int)) (h : Evs w S v xs) :
    Calls Try.prog 35 #[v, .int .i64 k] w fun e w' => e = .returned (.int .i64 (-1)) ∧ w = w' := by
  obtain ⟨A, c, rfl, hlc, hcm, -⟩ := h.shape
  clear h
  have hd : decide (k - (xs.length : Int) < 0) = true := decide_eq_true (by omega)
  go_enter Try.func35, Try.ntmps35
  go_wp2
  go_ret
  exact ⟨rfl, rfl⟩
theorem toEvent_any (w : World) (x : EvM) :
    Calls Try.prog 94 #[x.val] w fun e w' => e = .returned x.val ∧ Up w w' := by
  go_enter Try.func94, Try.ntmps94
  go_wp2
  exact bodyPost_ret (v := x.val) (by simp [results, Try.results94, go_sem]) rfl ⟨rfl, by repeat (first | exact Chg.refl _ _ | refine Chg.alloc ?_ _)⟩
set_option maxRecDepth 100000 in
set_option maxHeartbeats 4000000 in
theorem toEvs (w : World) (S : Nat → Prop) (v : Value) (xs : List EvM) (hb : cntEvs xs ≤ 8388608) (h : Evs w S v xs) :
    Calls Try.prog 37 #[v] w fun e w' => ∃ u, e = .returned u ∧ Evs w' (New w.heap.size w'.heap.size) u xs ∧ Up w w' := by
  unfold cntEvs at hb
  obtain ⟨A, c, rfl, hlc, hcm, -⟩ := h.shape
  have H := Lib.hid h
  clear h
  obtain ⟨i0, hi, hz0, hz1, hz2⟩ := info_parts infoEvs
  have hmk : ∀ u : World, (Instr.makeSlice 29 (.int .i64 (xs.length : Int)) (.int .i64 (xs.length : Int))).run Try.prog u =
      .ok (.slice (some ⟨u.heap.size, 0, none⟩) xs.length xs.length) (u.alloc (.cells (madeCells (EvM.mk 0 0 0 0 0 0).cells.toArray (xs.length * 6)) 114)) := fun u => by
    have h := run_make (P := Try.prog) u 29 114 i0 (EvM.mk 0 0 0 0 0 0).val Try.underlying29 hi hz0 .i64 .i64 (xs.length : Int) (xs.length : Int) (by omega) (Int.le_refl _) (by rw [hz2]; omega) (by omega)
    simpa [hz1, Value.cells, EvM.cells] using h
  go_enter Try.func37, Try.ntmps37
  go_wp2
  have Hi := Lib.hid hmk
  clear hmk hi hz0 hz1 hz2
  go_loopw [4] (fun i wr => ∃ j : Nat, j ≤ xs.length ∧ i = .int .i64 j ∧ Hid (Up w wr) ∧ w.heap.size < wr.heap.size ∧
      Hid (Copying wr w.heap.size 6 xs.length j (xs.flatMap EvM.cells))) (fun i _ => xs.length - (intOf i).toNat)
  case atStart => exact ⟨0, by omega, rfl, (Chg.refl _ _).alloc _, by simp, Copying.start _ _ _ _ _ _ (by simp [size_madeCells])⟩
  case round =>
    obtain ⟨j, hj, rfl, hg, hsz, hcs⟩ := hrel
    by_cases hlt : j < xs.length
    · obtain ⟨b, o, c', he, -, hbl, hc⟩ := (H.out.up hg.out).at_ hlt
      obtain ⟨rfl, rfl⟩ : A = some ⟨b, o, none⟩ ∧ c = c' := by simpa using he
      have f0 := (hc 0 _ rfl).1
      have f1 := (hc 1 _ rfl).1
      have f2 := (hc 2 _ rfl).1
      have f3 := (hc 3 _ rfl).1
      have f4 := (hc 4 _ rfl).1
      have f5 := (hc 5 _ rfl).1
      rw [Nat.add_zero] at f0
      clear hc he
      go_wp2_with fail
      refine (toEvent_any _ xs[j]).mono ?_
      rintro e w2 ⟨rfl, g2⟩
      have hcs := Lib.hid (Copying.up hcs.out g2)
      have hg := Lib.hid (Chg.trans hg.out g2)
      have hsz := Nat.lt_of_lt_of_le hsz g2.size
      clear g2
      obtain ⟨u0, c0, q0⟩ := hcs.out.cell hlt 0 (by omega)
      obtain ⟨u1, c1, q1⟩ := hcs.out.cell hlt 1 (by omega)
      obtain ⟨u2, c2, q2⟩ := hcs.out.cell hlt 2 (by omega)
      obtain ⟨u3, c3, q3⟩ := hcs.out.cell hlt 3 (by omega)
      obtain ⟨u4, c4, q4⟩ := hcs.out.cell hlt 4 (by omega)
      obtain ⟨u5, c5, q5⟩ := hcs.out.cell hlt 5 (by omega)
      rw [Nat.add_zero] at c0 q0
      go_wp2
      go_roundw
      case rel =>
        refine ⟨j + 1, by omega, by go_num, Chg.setCellsNew (Nat.le_refl _) xs[j].cells (j * 6) hg.out, ?_, Copying.next hcs.out hlt (vs := xs[j].cells) rfl (fun i hi => ?_)⟩
        · simpa [World.setCell] using hsz
        · rw [flat_get EvM.cells 6 EvM.cells_length xs j hlt i hi]
          exact List.getElem?_eq_getElem hi
      case measure => simp [intOf]; omega
    · obtain rfl : j = xs.length := by omega
      go_wp2
      go_ret
      exact ⟨_, rfl, ⟨Copying.done hcs.out ⟨Nat.le_refl _, hsz⟩ hsz (flat_length EvM.cells 6 EvM.cells_length xs) (by omega), H.out.2⟩, hg.out⟩
end Go.Proofs.Ytchfjglofmphfaa
