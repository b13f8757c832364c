/- How columns are moved: the reference's and the program's plans. No condition. Kinds of stitches and lists of them: the program's and the reference's tests and sums. No condition. Functions of the library on slices of numbers with a test; the program's test of a list of stitches; sums over lists. No condition. Stacks of columns: valid on both sides. No condition. Contracts of the library's functions, laid at this program by the kit's own tool, in plain words. No condition. slices.Repeat of a single 1. Condition: at most eight. The stacks that one stitch makes. No condition. Stacks of columns behind a row of stitches, as plain data; parts of a slice of numbers. No condition. Rows by value and behind a pointer: their tests and their codes. No condition. -/
import Derived.Test.YtnjfhpgmogopnaaGreatPG1
import Derived.Deep.RegionHeld3
import Derived.Shelf.Small.Bits
import Derived.Shelf.Strconv.Itoa0
import Derived.Shelf.Bits.Mul64
import Derived.Ground.SlgnProg
import Derived.Shelf.SlicesG.Clone
import Derived.Shelf.SlicesE.Index
import Derived.Shelf.SlicesE.Equal
import Derived.Shelf.SlicesE.Compact
import Derived.Shelf.SlicesE.Clone
import Derived.Ground.SlgfProg
import Derived.Shelf.SlicesE.IndexFunc
import Derived.Test.YtnjfhpgmogopnaaGreatProg
import Derived.Laws.CopyOwn
import Derived.Deep.RegionLaw
import Derived.RegionTactic
namespace Go.Proofs.YtnjfhpgmogopnaaGreat
open Go.ChangeShapes Go.WideShapes Go.ChangeAt Go.RowKit
def ix (xs : List Int) (i : Nat) : Int := xs.getD i 0
theorem ix_eq {xs : List Int} {i : Nat} (h : i < xs.length) : ix xs i = xs[i] := by unfold ix; simp [h]
theorem Ints.ix {w : World} {S : Nat → Prop} {A : Option Addr} {c : Nat} {xs : List Int} (h : Ints w S (.slice A xs.length c) xs) {i : Nat} (hi : i < xs.length) :
    ∃ b o, A = some ⟨b, o, none⟩ ∧ b < w.heap.size ∧ ∀ j, j < xs.length → w.cell? ⟨b, o + j, none⟩ = some (.int .i64 (ix xs j)) := by
  obtain ⟨A', c', he, _, _, _, hr, _⟩ := h
  obtain ⟨rfl, rfl⟩ : A = A' ∧ c = c' := by simpa using he
  obtain ⟨b, o, hA, _, hbl, hc⟩ := hr (by omega)
  exact ⟨b, o, hA, hbl, fun j hj => by rw [ix_eq hj]; exact (hc j hj).1⟩
theorem places_in {tw : Bool} {xs : List Int} (h : placesB tw xs = true) {i : Nat} (hi : i < xs.length) : 0 ≤ ix xs i ∧ ix xs i ≤ 23 := by
  obtain ⟨h1, _⟩ := of_decide_eq_true h
  rw [ix_eq hi]
  exact ⟨(h1 i hi hi).1, (h1 i hi hi).2.1⟩
theorem places_short {tw : Bool} {xs : List Int} (h : placesB tw xs = true) : xs.length ≤ 8 := (of_decide_eq_true h).2
/-- no two columns are put together of which the second does not come from the right -/
def groupsTo (xs ys : List Int) (j : Nat) : Prop := ∀ i, i < j → 0 < i → i < ys.length → ¬ (ix ys i = ix ys (i - 1) ∧ ix xs i ≤ ix ys i)
instance (xs ys : List Int) (j : Nat) : Decidable (groupsTo xs ys j) := inferInstanceAs (Decidable (∀ i, i < j → _))
def groupsB (xs ys : List Int) : Bool := decide (groupsTo xs ys ys.length)
theorem groupsTo_succ {xs ys : List Int} {j : Nat} (h : groupsTo xs ys j) (hn : 0 < j → ¬ (ix ys j = ix ys (j - 1) ∧ ix xs j ≤ ix ys j)) : groupsTo xs ys (j + 1) := fun i hi h0 hl => by
  by_cases e : i = j
  · subst e; exact hn h0
  · exact h i (by omega) h0 hl
theorem groupsB_not {xs ys : List Int} {j : Nat} (hj : 0 < j) (hl : j < ys.length) (h : ix ys j = ix ys (j - 1) ∧ ix xs j ≤ ix ys j) : groupsB xs ys = false :=
  decide_eq_false fun hh => hh j hl hj hl h
/-- the moves of the columns that go to the right, from the last column on; of those that go to the left, from the first one on -/
def upAt (xs ys : List Int) (i : Nat) : List MoveM := if ix xs i < ix ys i then stepsM (ix xs i) (ix ys i) else []
def downAt (xs ys : List Int) (i : Nat) : List MoveM := if ix ys i < ix xs i then stepsM (ix xs i) (ix ys i) else []
def upTo (xs ys : List Int) (m : Nat) : List MoveM := (List.range m).flatMap fun r => upAt xs ys (xs.length - 1 - r)
def downTo (xs ys : List Int) (m : Nat) : List MoveM := (List.range m).flatMap fun i => downAt xs ys i
def planM (xs ys : List Int) : List MoveM := upTo xs ys xs.length ++ downTo xs ys xs.length
theorem upTo_succ (xs ys : List Int) (m : Nat) : upTo xs ys (m + 1) = upTo xs ys m ++ upAt xs ys (xs.length - 1 - m) := by simp [upTo, List.range_succ]
theorem downTo_succ (xs ys : List Int) (m : Nat) : downTo xs ys (m + 1) = downTo xs ys m ++ downAt xs ys m := by simp [downTo, List.range_succ]
theorem upAt_len (xs ys : List Int) (i : Nat) : (upAt xs ys i).length ≤ 24 := by
  unfold upAt; split
  · exact stepsF_length _ _ _
  · simp
theorem downAt_len (xs ys : List Int) (i : Nat) : (downAt xs ys i).length ≤ 24 := by
  unfold downAt; split
  · exact stepsF_length _ _ _
  · simp
theorem upTo_len (xs ys : List Int) : ∀ m, (upTo xs ys m).length ≤ 24 * m
  | 0 => by simp [upTo]
  | m + 1 => by
    have h1 := upTo_len xs ys m
    have h2 := upAt_len xs ys (xs.length - 1 - m)
    rw [upTo_succ, List.length_append]
    omega
theorem downTo_len (xs ys : List Int) : ∀ m, (downTo xs ys m).length ≤ 24 * m
  | 0 => by simp [downTo]
  | m + 1 => by
    have h1 := downTo_len xs ys m
    have h2 := downAt_len xs ys m
    rw [downTo_succ, List.length_append]
    omega
set_option maxRecDepth 100000 in
set_option maxHeartbeats 4000000 in
theorem l21Groups_any (w : World) (S T : Nat → Prop) (v u : Value) (xs ys : List Int) (h : Ints w S v xs) (h2 : Ints w T u ys) (hl : xs.length = ys.length) (hs : ys.length ≤ 8) :
    Calls Tryz.prog 159 #[v, u] w fun e w' => e = .returned (.bool (groupsB xs ys)) ∧ Drawn w w' := by
  obtain ⟨A, c, rfl, hlc, hcm, -⟩ := h.shape
  obtain ⟨A2, c2, rfl, hlc2, hcm2, -⟩ := h2.shape
  have H := Lib.hid h
  have H2 := Lib.hid h2
  clear h h2
  have HLen := Lib.hid hl
  clear hl
  go_enter Tryz.func159, Tryz.ntmps159
  go_wp2
  go_loopw [5] (fun i wr => ∃ j : Nat, j ≤ ys.length ∧ i = .int .i64 (j + 1) ∧ Hid (groupsTo xs ys (j + 1)) ∧ Drawn w wr) (fun i _ => ys.length - (intOf i).toNat)
  case atStart => exact ⟨0, by omega, rfl, fun i hi h0 => by omega, Drawn.refl _⟩
  case round =>
    obtain ⟨j, hj, rfl, hp, hd⟩ := hrel
    by_cases hlt : j + 1 < ys.length
    · obtain ⟨b, o, rfl, -, hc⟩ := H.out.ix (i := j + 1) (by rw [HLen.out]; exact hlt)
      obtain ⟨b2, o2, rfl, -, hc2⟩ := H2.out.ix (i := j + 1) hlt
      have f1 := hd.cell (hc (j + 1) (by rw [HLen.out]; exact hlt))
      have f2 := hd.cell (hc2 (j + 1) hlt)
      have f3 := hd.cell (hc2 j (by omega))
      have hxl : ((j : Int) + 1) < xs.length := by rw [HLen.out]; omega
      clear hc hc2
      by_cases he : ix ys (j + 1) = ix ys j
      · have hd1 : (ix ys (j + 1) == ix ys j) = true := by simpa using he
        by_cases hle : ix xs (j + 1) ≤ ix ys (j + 1)
        · have hd2 : decide (ix xs (j + 1) ≤ ix ys (j + 1)) = true := decide_eq_true hle
          have HB := Lib.hid (groupsB_not (xs := xs) (j := j + 1) (by omega) hlt ⟨by simpa using he, hle⟩)
          clear he hle
          go_wp2
          go_quiet (fail)
          go_wp2
          go_ret
          exact ⟨ret_bool HB.out.symm, hd.drewN _⟩
        · have hd2 : decide (ix xs (j + 1) ≤ ix ys (j + 1)) = false := decide_eq_false hle
          have HB := Lib.hid (groupsTo_succ hp.out (fun _ hh => hle hh.2))
          clear he hle
          go_wp2
          go_quiet (fail)
          go_wp2
          go_roundw
          case rel => exact ⟨j + 1, by omega, by go_num, HB, hd.drewN _⟩
          case measure => first | (simp [intOf]; done) | (simp [intOf]; omega)
      · have hd1 : (ix ys (j + 1) == ix ys j) = false := by simpa using he
        have HB := Lib.hid (groupsTo_succ hp.out (fun _ hh => he (by simpa using hh.1)))
        clear he
        go_wp2
        go_quiet (fail)
        go_wp2
        go_roundw
        case rel => exact ⟨j + 1, by omega, by go_num, HB, hd.drewN _⟩
        case measure => first | (simp [intOf]; done) | (simp [intOf]; omega)
    · have HB := Lib.hid (show groupsB xs ys = true from decide_eq_true (fun i hi h0 hl => hp.out i (by omega) h0 hl))
      go_wp2
      go_ret
      exact ⟨ret_bool HB.out.symm, hd⟩
def PlanOk (xs ys : List Int) : Prop := xs.length = ys.length ∧ xs.length ≤ 8 ∧ (∀ i, i < xs.length → 0 ≤ ix xs i ∧ ix xs i ≤ 23) ∧ (∀ i, i < xs.length → 0 ≤ ix ys i ∧ ix ys i ≤ 23)
set_option maxRecDepth 100000 in
set_option maxHeartbeats 8000000 in
theorem l21Plan_any (w : World) (S T : Nat → Prop) (v u : Value) (xs ys : List Int) (h : Ints w S v xs) (h2 : Ints w T u ys) (hk : PlanOk xs ys) :
    Calls Tryz.prog 160 #[v, u] w fun e w' => ∃ v', e = .returned v' ∧ Moves w' (New w.heap.size w'.heap.size) v' (planM xs ys) ∧ Up w w' := by
  obtain ⟨A, c, rfl, hlc, hcm, -⟩ := h.shape
  obtain ⟨A2, c2, rfl, hlc2, hcm2, -⟩ := h2.shape
  have H := Lib.hid h
  have H2 := Lib.hid h2
  clear h h2
  have HK := Lib.hid hk
  have hle := hk.2.1
  have hge : xs.length ≤ ys.length ∧ ys.length ≤ xs.length := by have := hk.1; omega
  clear hk
  go_enter Tryz.func160, Tryz.ntmps160
  go_wp2
  go_loopw [5, 6] (fun v i wr => ∃ m : Nat, m ≤ xs.length ∧ i = .int .i64 ((xs.length : Int) - 1 - m) ∧ Hid (OwnMoves wr w.heap.size v (upTo xs ys m)) ∧ Hid (Up w wr)) (fun _ i _ => (intOf i + 1).toNat)
  case atStart => exact ⟨0, by omega, by simp, OwnMoves.made w _ (Nat.le_refl _), (Chg.refl _ _).alloc _⟩
  case round =>
    obtain ⟨m, hm, rfl, ho, hg⟩ := hrel
    by_cases hlt : m < xs.length
    · obtain ⟨i, hi⟩ : ∃ i : Nat, i = xs.length - 1 - m := ⟨_, rfl⟩
      have hiI : (xs.length : Int) - 1 - m = i := by omega
      have hil : i < xs.length := by omega
      have HI := Lib.hid hi
      rw [hiI]
      obtain ⟨b, o, rfl, hbx, hc0⟩ := H.out.ix (i := i) hil
      have hc := fun j hj => hg.out.cell (hc0 j hj) id
      obtain ⟨b2, o2, rfl, hbx2, hc20⟩ := H2.out.ix (i := i) (by omega)
      have hc2 := fun j hj => hg.out.cell (hc20 j hj) id
      have f1 := hc i hil
      have f2 := hc2 i (by omega)
      have hb1 := HK.out.2.2.1 i hil
      have hb2 := HK.out.2.2.2 i hil
      have HIm := Lib.hid hiI
      have hg0 : (0 : Int) ≤ i := by omega
      have hxl : (i : Int) < xs.length ∧ (i : Int) < ys.length := by omega
      obtain ⟨hxl1, hxl2⟩ := hxl
      clear hc hc2 hc0 hc20 hi hiI
      by_cases hup : ix xs i < ix ys i
      · have hd1 : decide (ix xs i < ix ys i) = true := decide_eq_true hup
        have HU := Lib.hid (show upAt xs ys i = stepsM (ix xs i) (ix ys i) from if_pos hup)
        clear hup
        go_wp2
        go_quiet (fail)
        go_wp2
        generalize hwz : wr.drewN nq = wz
        have e1 : wz.cell? ⟨b, o + i, none⟩ = some (.int .i64 (ix xs i)) := by rw [← hwz]; exact f1
        have e2 : wz.cell? ⟨b2, o2 + i, none⟩ = some (.int .i64 (ix ys i)) := by rw [← hwz]; exact f2
        have HOz := Lib.hid (show OwnMoves wz w.heap.size _ _ from by rw [← hwz]; exact ho.out.up ((Chg.refl Nowhere wr).drewN nq))
        have HGz := Lib.hid (show Up w wz from by rw [← hwz]; exact Chg.drewN hg.out nq)
        have HLL := Lib.hid (show (upTo xs ys m).length + (stepsM (ix xs i) (ix ys i)).length ≤ 1099511627776 by
          have h1 := upTo_len xs ys m
          have h2 := stepsF_length 24 (ix xs i) (ix ys i)
          unfold stepsM
          omega)
        have hbb : b < w.heap.size := hbx
        have hbb2 : b2 < w.heap.size := hbx2
        clear f1 f2 hwz ho hg
        go_region_held3 (fun w' => w'.cell? ⟨b, o + i, none⟩ = some (.int .i64 (ix xs i)) ∧ w'.cell? ⟨b2, o2 + i, none⟩ = some (.int .i64 (ix ys i)))
          (first | (exact ⟨e1, e2⟩) | (obtain ⟨q0, q1⟩ : (World.cell? _ _ = _ ∧ World.cell? _ _ = _) := (by assumption); exact ⟨Chg.cell g1 q0 id, Chg.cell g1 q1 id⟩) | (obtain ⟨q0, q1⟩ : (World.cell? _ _ = _ ∧ World.cell? _ _ = _) := (by assumption); exact ⟨Chg.cell hg1 q0 (by simp only []; omega), Chg.cell hg1 q1 (by simp only []; omega)⟩))
          (first | (go_at_call 168; refine (l21Steps_any _ (ix xs i) (ix ys i) hb1 hb2).mono ?_; rintro e w1 ⟨v1, rfl, k1, g1⟩; obtain ⟨A1, c1, rfl, hl1, hc1, -⟩ := k1.shape; have HK1 := Lib.hid k1; have HO1 := Lib.hid (OwnMoves.up (OwnMoves.up HOz.out ((Chg.refl Nowhere wz).drew)) g1); have HG1 := Lib.hid (Chg.trans (Chg.drew HGz.out) g1); have hsz := HG1.out.size; clear k1) | (refine step_appendMoves (by rfl) _ _ (by rfl) w.heap.size _ (upTo xs ys m) (by rfl) HO1.out _ _ (stepsM (ix xs i) (ix ys i)) (by rfl) HK1.out HLL.out ?_ ?_; (first | omega | (simp; omega)); intro v' w3 ho1 _ hg1; have HO := Lib.hid ho1; have HG := Lib.hid (Chg.new HG1.out hg1 (fun i hi => by omega)); clear ho1))
        clear g1 hg1 e1 e2
        go_wp2
        go_roundw
        case rel => exact ⟨m + 1, by omega, by have := HIm.out; rw [show ((i : Int) - 1) = (xs.length : Int) - 1 - ((m + 1 : Nat) : Int) by omega], by rw [upTo_succ, ← HI.out, HU.out]; exact HO.out, HG.out⟩
        case measure => first | (simp [intOf]; done) | (simp [intOf]; omega)
      · have hd1 : decide (ix xs i < ix ys i) = false := decide_eq_false hup
        have HU := Lib.hid (show upAt xs ys i = [] from if_neg hup)
        clear hup
        go_wp2
        go_quiet (fail)
        go_wp2
        go_roundw
        case rel => exact ⟨m + 1, by omega, by have := HIm.out; rw [show ((i : Int) - 1) = (xs.length : Int) - 1 - ((m + 1 : Nat) : Int) by omega], by rw [upTo_succ, ← HI.out, HU.out, List.append_nil]; exact ho, Chg.drewN hg.out _⟩
        case measure => first | (simp [intOf]; done) | (simp [intOf]; omega)
    · obtain rfl : m = xs.length := by omega
      have hng : ¬ (0 : Int) ≤ (xs.length : Int) - 1 - xs.length := by omega
      go_wp2
      go_loopw [5, 7] (fun v i wr => ∃ j : Nat, j ≤ xs.length ∧ i = .int .i64 j ∧ Hid (OwnMoves wr w.heap.size v (upTo xs ys xs.length ++ downTo xs ys j)) ∧ Hid (Up w wr)) (fun _ i _ => xs.length - (intOf i).toNat)
      case atStart => exact ⟨0, by omega, rfl, by simpa [Hid, downTo] using ho, hg⟩
      clear ho hg hng
      case round =>
        obtain ⟨i, hi, rfl, ho, hg⟩ := hrel
        by_cases hil : i < xs.length
        · obtain ⟨b, o, rfl, hbx, hc0⟩ := H.out.ix (i := i) hil
          have hc := fun j hj => hg.out.cell (hc0 j hj) id
          obtain ⟨b2, o2, rfl, hbx2, hc20⟩ := H2.out.ix (i := i) (by omega)
          have hc2 := fun j hj => hg.out.cell (hc20 j hj) id
          have f1 := hc i hil
          have f2 := hc2 i (by omega)
          have hb1 := HK.out.2.2.1 i hil
          have hb2 := HK.out.2.2.2 i hil
          have hxl : (i : Int) < xs.length ∧ (i : Int) < ys.length := by omega
          obtain ⟨hxl1, hxl2⟩ := hxl
          clear hc hc2 hc0 hc20
          by_cases hup : ix ys i < ix xs i
          · have hd1 : decide (ix ys i < ix xs i) = true := decide_eq_true hup
            have HU := Lib.hid (show downAt xs ys i = stepsM (ix xs i) (ix ys i) from if_pos hup)
            clear hup
            go_wp2
            go_quiet (fail)
            go_wp2
            generalize hwz : wr.drewN nq = wz
            have e1 : wz.cell? ⟨b, o + i, none⟩ = some (.int .i64 (ix xs i)) := by rw [← hwz]; exact f1
            have e2 : wz.cell? ⟨b2, o2 + i, none⟩ = some (.int .i64 (ix ys i)) := by rw [← hwz]; exact f2
            have HOz := Lib.hid (show OwnMoves wz w.heap.size _ _ from by rw [← hwz]; exact ho.out.up ((Chg.refl Nowhere wr).drewN nq))
            have HGz := Lib.hid (show Up w wz from by rw [← hwz]; exact Chg.drewN hg.out nq)
            have HLL := Lib.hid (show (upTo xs ys xs.length ++ downTo xs ys i).length + (stepsM (ix xs i) (ix ys i)).length ≤ 1099511627776 by
              rw [List.length_append]
              have h0 := upTo_len xs ys xs.length
              have h1 := downTo_len xs ys i
              have h2 := stepsF_length 24 (ix xs i) (ix ys i)
              unfold stepsM
              omega)
            have hbb : b < w.heap.size := hbx
            have hbb2 : b2 < w.heap.size := hbx2
            clear f1 f2 hwz ho hg
            go_region_held3 (fun w' => w'.cell? ⟨b, o + i, none⟩ = some (.int .i64 (ix xs i)) ∧ w'.cell? ⟨b2, o2 + i, none⟩ = some (.int .i64 (ix ys i)))
              (first | (exact ⟨e1, e2⟩) | (obtain ⟨q0, q1⟩ : (World.cell? _ _ = _ ∧ World.cell? _ _ = _) := (by assumption); exact ⟨Chg.cell g1 q0 id, Chg.cell g1 q1 id⟩) | (obtain ⟨q0, q1⟩ : (World.cell? _ _ = _ ∧ World.cell? _ _ = _) := (by assumption); exact ⟨Chg.cell hg1 q0 (by simp only []; omega), Chg.cell hg1 q1 (by simp only []; omega)⟩))
              (first | (go_at_call 168; refine (l21Steps_any _ (ix xs i) (ix ys i) hb1 hb2).mono ?_; rintro e w1 ⟨v1, rfl, k1, g1⟩; obtain ⟨A1, c1, rfl, hl1, hc1, -⟩ := k1.shape; have HK1 := Lib.hid k1; have HO1 := Lib.hid (OwnMoves.up (OwnMoves.up HOz.out ((Chg.refl Nowhere wz).drew)) g1); have HG1 := Lib.hid (Chg.trans (Chg.drew HGz.out) g1); have hsz := HG1.out.size; clear k1) | (refine step_appendMoves (by rfl) _ _ (by rfl) w.heap.size _ (upTo xs ys xs.length ++ downTo xs ys i) (by rfl) HO1.out _ _ (stepsM (ix xs i) (ix ys i)) (by rfl) HK1.out HLL.out ?_ ?_; (first | omega | (simp; omega)); intro v' w3 ho1 _ hg1; have HO := Lib.hid ho1; have HG := Lib.hid (Chg.new HG1.out hg1 (fun i hi => by omega)); clear ho1))
            clear g1 hg1 e1 e2
            go_wp2
            go_roundw
            case rel => exact ⟨i + 1, by omega, by go_num, by rw [downTo_succ, HU.out, ← List.append_assoc]; exact HO.out, HG.out⟩
            case measure => first | (simp [intOf]; done) | (simp [intOf]; omega)
          · have hd1 : decide (ix ys i < ix xs i) = false := decide_eq_false hup
            have HU := Lib.hid (show downAt xs ys i = [] from if_neg hup)
            clear hup
            go_wp2
            go_quiet (fail)
            go_wp2
            go_roundw
            case rel => exact ⟨i + 1, by omega, by go_num, by rw [downTo_succ, HU.out, List.append_nil]; exact ho, Chg.drewN hg.out _⟩
            case measure => first | (simp [intOf]; done) | (simp [intOf]; omega)
        · obtain rfl : i = xs.length := by omega
          go_wp2
          go_ret
          exact ⟨_, rfl, ho.out.rd, hg.out⟩
end Go.Proofs.YtnjfhpgmogopnaaGreat
namespace Go.Proofs.YtnjfhpgmogopnaaGreat
open Go.ChangeShapes Go.WideShapes Go.ChangeAt Go.RowKit
theorem kindB_cases {k : Int} (h : kindB k = true) : k = 1 ∨ k = 2 ∨ k = 3 ∨ k = 4 ∨ k = 5 ∨ k = 6 ∨ k = 7 ∨ k = 8 ∨ k = 9 ∨ k = 10 ∨ k = 11 := by
  have := of_decide_eq_true h
  omega
theorem isStitch_any (k : Int) (w : World) :
    Calls Tryz.prog 139 #[.int .i64 k] w fun e w' => e = .returned (.bool (kindB k)) ∧ w = w' := by
  cases h : kindB k with
  | false => exact isStitch_no k w (by have := of_decide_eq_false h; omega)
  | true => exact isStitch_yes k w (of_decide_eq_true h)
theorem l14Kind_any (k : Int) (w : World) :
    Calls Tryz.prog 105 #[.int .i64 k] w fun e w' => e = .returned (.bool (kindB k)) ∧ w = w' := by
  cases h : kindB k with
  | false => exact l14Kind_no k w (by have := of_decide_eq_false h; omega)
  | true => exact l14Kind_yes k w (of_decide_eq_true h)
set_option maxHeartbeats 4000000 in
theorem ColumnsTaken_any (k : Int) (w : World) :
    Calls Tryz.prog 112 #[.int .i64 k] w fun e w' => e = .returned (.int .i64 (takenOf k)) ∧ w = w' := by
  cases h : kindB k with
  | false =>
    have hv : takenOf k = -1 := by unfold takenOf; rw [h]; rfl
    rw [hv]
    have H := Lib.hid h
    clear h hv
    go_enter Tryz.func112, Tryz.ntmps112
    go_wp2_with fail
    refine (isStitch_any _ _).mono ?_
    rintro e w' ⟨rfl, rfl⟩
    rw [H.out]
    go_wp2
    go_ret
    exact ⟨rfl, rfl⟩
  | true =>
    have hc := kindB_cases h
    have H := Lib.hid h
    clear h
    rcases hc with rfl | rfl | rfl | rfl | rfl | rfl | rfl | rfl | rfl | rfl | rfl
    all_goals
      go_enter Tryz.func112, Tryz.ntmps112
      go_wp2_with fail
      refine (isStitch_any _ _).mono ?_
      rintro e w' ⟨rfl, rfl⟩
      rw [H.out]
      go_wp2
      go_ret
      exact ⟨rfl, rfl⟩
set_option maxHeartbeats 4000000 in
theorem sColumnsTaken_any (k : Int) (w : World) :
    Calls Tryz.prog 128 #[.int .i64 k] w fun e w' => e = .returned (.int .i64 (takenOf k)) ∧ Up w w' := by
  cases h : kindB k with
  | false =>
    have hv : takenOf k = -1 := by unfold takenOf; rw [h]; rfl
    rw [hv]
    have H := Lib.hid h
    clear h hv
    go_enter Tryz.func128, Tryz.ntmps128
    go_wp2_with fail
    refine (l14Kind_any _ _).mono ?_
    rintro e w' ⟨rfl, rfl⟩
    rw [H.out]
    go_wp2
    go_ret
    exact ⟨rfl, Chg.refl _ _⟩
  | true =>
    have hc := kindB_cases h
    have H := Lib.hid h
    clear h
    rcases hc with rfl | rfl | rfl | rfl | rfl | rfl | rfl | rfl | rfl | rfl | rfl
    all_goals
      go_enter Tryz.func128, Tryz.ntmps128
      go_wp2_with fail
      refine (l14Kind_any _ _).mono ?_
      rintro e w' ⟨rfl, rfl⟩
      rw [H.out]
      go_wp2
      go_ret
      exact ⟨rfl, by repeat (first | exact Chg.refl _ _ | refine Chg.alloc ?_ _)⟩
set_option maxHeartbeats 4000000 in
theorem ColumnsMade_any (k : Int) (w : World) :
    Calls Tryz.prog 121 #[.int .i64 k] w fun e w' => e = .returned (.int .i64 (madeOf k)) ∧ w = w' := by
  cases h : kindB k with
  | false =>
    have hv : madeOf k = -1 := by unfold madeOf; rw [h]; rfl
    rw [hv]
    have H := Lib.hid h
    clear h hv
    go_enter Tryz.func121, Tryz.ntmps121
    go_wp2_with fail
    refine (isStitch_any _ _).mono ?_
    rintro e w' ⟨rfl, rfl⟩
    rw [H.out]
    go_wp2
    go_ret
    exact ⟨rfl, rfl⟩
  | true =>
    have hc := kindB_cases h
    have H := Lib.hid h
    clear h
    rcases hc with rfl | rfl | rfl | rfl | rfl | rfl | rfl | rfl | rfl | rfl | rfl
    all_goals
      go_enter Tryz.func121, Tryz.ntmps121
      go_wp2_with fail
      refine (isStitch_any _ _).mono ?_
      rintro e w' ⟨rfl, rfl⟩
      rw [H.out]
      go_wp2
      go_ret
      exact ⟨rfl, rfl⟩
set_option maxHeartbeats 4000000 in
theorem sColumnsMade_any (k : Int) (w : World) :
    Calls Tryz.prog 71 #[.int .i64 k] w fun e w' => e = .returned (.int .i64 (madeOf k)) ∧ Up w w' := by
  cases h : kindB k with
  | false =>
    have hv : madeOf k = -1 := by unfold madeOf; rw [h]; rfl
    rw [hv]
    have H := Lib.hid h
    clear h hv
    go_enter Tryz.func71, Tryz.ntmps71
    go_wp2_with fail
    refine (l14Kind_any _ _).mono ?_
    rintro e w' ⟨rfl, rfl⟩
    rw [H.out]
    go_wp2
    go_ret
    exact ⟨rfl, Chg.refl _ _⟩
  | true =>
    have hc := kindB_cases h
    have H := Lib.hid h
    clear h
    rcases hc with rfl | rfl | rfl | rfl | rfl | rfl | rfl | rfl | rfl | rfl | rfl
    all_goals
      go_enter Tryz.func71, Tryz.ntmps71
      go_wp2_with fail
      refine (l14Kind_any _ _).mono ?_
      rintro e w' ⟨rfl, rfl⟩
      rw [H.out]
      go_wp2
      go_ret
      exact ⟨rfl, by repeat (first | exact Chg.refl _ _ | refine Chg.alloc ?_ _)⟩
theorem stB_of {xs : List Int} (h : ∀ i (hi : i < xs.length), kindB xs[i] = true) : stB xs = decide ((xs.length : Int) ≤ 16) := by
  unfold stB
  have : xs.all kindB = true := List.all_eq_true.2 fun x hx => by
    obtain ⟨i, hi, rfl⟩ := List.getElem_of_mem hx
    exact h i hi
  rw [this, Bool.true_and]
  exact decide_eq_decide.2 (by omega)
theorem stB_not {xs : List Int} {i : Nat} (hi : i < xs.length) (h : kindB xs[i] = false) : stB xs = false := by
  unfold stB
  have : xs.all kindB = false := by
    rw [Bool.eq_false_iff]
    intro hh
    rw [List.all_eq_true.1 hh _ (List.getElem_mem hi)] at h
    cases h
  rw [this, Bool.false_and]
set_option maxHeartbeats 1000000 in
theorem l14Ok_any (w : World) (S : Nat → Prop) (v : Value) (xs : List Int) (h : Ints w S v xs) :
    Calls Tryz.prog 70 #[v] w fun e w' => e = .returned (.bool (stB xs)) ∧ w = w' := by
  obtain ⟨A, c, rfl, hlc, hcm, -⟩ := h.shape
  have H := Lib.hid h
  clear h
  go_enter Tryz.func70, Tryz.ntmps70
  go_wp2
  go_loop [3] (fun i => ∃ j : Nat, j ≤ xs.length ∧ i = .int .i64 j ∧ Hid (∀ i (hi : i < xs.length), i < j → kindB xs[i] = true)) (fun i => xs.length - (intOf i).toNat)
  case atStart => exact ⟨0, by omega, rfl, fun i hi h => by omega⟩
  case round =>
    obtain ⟨j, hj, rfl, hp⟩ := hrel
    by_cases hlt : j < xs.length
    · obtain ⟨b, o, rfl, -, hc⟩ := H.out.ix hlt
      have f1 := hc j hlt
      rw [ix_eq hlt] at f1
      clear hc
      cases hk : kindB xs[j] with
      | false =>
        have HB := Lib.hid (stB_not hlt hk)
        have HK := Lib.hid hk
        clear hk
        go_wp2_with fail
        refine (l14Kind_any _ _).mono ?_
        rintro e w' ⟨rfl, rfl⟩
        rw [HK.out]
        go_wp2
        go_ret
        exact ⟨ret_bool HB.out.symm, rfl⟩
      | true =>
        have HK := Lib.hid hk
        clear hk
        go_wp2_with fail
        refine (l14Kind_any _ _).mono ?_
        rintro e w' ⟨rfl, rfl⟩
        rw [HK.out]
        go_wp2
        go_round
        case rel => exact ⟨j + 1, by omega, by go_num, fun i hi h => by
          by_cases e : i = j
          · subst e; exact HK.out
          · exact hp.out i hi (by omega)⟩
        case measure => simp [intOf]; omega
    · have HB := Lib.hid (stB_of (xs := xs) (fun i hi => hp.out i hi (by omega)))
      go_wp2
      go_ret
      exact ⟨ret_bool HB.out.symm, rfl⟩
def badKind (k : Int) : Bool := !kindB k
theorem areStitches1_any (k : Int) (w : World) : Calls Tryz.prog 138 #[.int .i64 k] w fun e w' => e = .returned (.bool (badKind k)) ∧ w = w' := by
  unfold badKind
  go_enter Tryz.func138, Tryz.ntmps138
  go_wp2_with fail
  refine (isStitch_any _ _).mono ?_
  rintro e w' ⟨rfl, rfl⟩
  go_wp2
  go_ret
  exact ⟨rfl, rfl⟩
end Go.Proofs.YtnjfhpgmogopnaaGreat
namespace Go.Proofs.YtnjfhpgmogopnaaGreat
open Go.ChangeShapes Go.WideShapes Go.ChangeAt Go.RowKit
/-- the place of the first number that answers, or -1 -/
def idxM (p : Int → Bool) (xs : List Int) : Int := match xs.findIdx? p with | some i => (i : Int) | none => -1
theorem idxM_none {p : Int → Bool} {xs : List Int} (h : ∀ i (hi : i < xs.length), p xs[i] = false) : idxM p xs = -1 := by
  unfold idxM
  have : xs.findIdx? p = none := List.findIdx?_eq_none_iff.2 fun x hx => by
    obtain ⟨i, hi, rfl⟩ := List.getElem_of_mem hx
    exact h i hi
  rw [this]
theorem idxM_at {p : Int → Bool} {xs : List Int} {j : Nat} (hj : j < xs.length) (h : p xs[j] = true) (hb : ∀ i (hi : i < xs.length), i < j → p xs[i] = false) : idxM p xs = j := by
  unfold idxM
  have : xs.findIdx? p = some j := List.findIdx?_eq_some_iff_getElem.2 ⟨hj, h, fun i hi => by rw [hb i (by omega) hi]; simp⟩
  rw [this]
theorem idxM_any (p : Int → Bool) (xs : List Int) : decide (idxM p xs ≥ 0) = xs.any p := by
  unfold idxM
  cases hf : xs.findIdx? p with
  | none =>
    have h1 := List.findIdx?_eq_none_iff.1 hf
    have : xs.any p = false := by
      rw [List.any_eq_false]
      intro x hx; rw [h1 x hx]; simp
    rw [this]; rfl
  | some j =>
    obtain ⟨h1, h2, _⟩ := List.findIdx?_eq_some_iff_getElem.1 hf
    have : xs.any p = true := List.any_eq_true.2 ⟨_, List.getElem_mem h1, h2⟩
    rw [this]
    simp
theorem idxM_bd (p : Int → Bool) (xs : List Int) : -1 ≤ idxM p xs ∧ idxM p xs ≤ xs.length := by
  unfold idxM
  cases hf : xs.findIdx? p with
  | none => simp only []; omega
  | some j =>
    obtain ⟨h1, _⟩ := List.findIdx?_eq_some_iff_getElem.1 hf
    simp only []; omega
set_option maxHeartbeats 1000000 in
theorem areStitchesIdx_any (w : World) (S : Nat → Prop) (v : Value) (xs : List Int) (h : Ints w S v xs) :
    Calls Tryz.prog 161 #[v, .func (.func 138) #[] #[]] w fun e w' => e = .returned (.int .i64 (idxM badKind xs)) ∧ w = w' := by
  obtain ⟨A, c, rfl, hlc, hcm, -⟩ := h.shape
  have H := Lib.hid h
  clear h
  go_enter Tryz.func161, Tryz.ntmps161
  go_wp2
  go_loop [5, 8] (fun _ i => ∃ j : Nat, j ≤ xs.length ∧ i = .int .i64 j ∧ Hid (∀ i (hi : i < xs.length), i < j → badKind xs[i] = false)) (fun _ i => xs.length - (intOf i).toNat)
  case atStart => exact ⟨0, by omega, rfl, fun i hi h => by omega⟩
  case round =>
    obtain ⟨j, hj, rfl, hp⟩ := hrel
    by_cases hlt : j < xs.length
    · obtain ⟨b, o, rfl, -, hc⟩ := H.out.ix hlt
      have f1 := hc j hlt
      rw [ix_eq hlt] at f1
      clear hc
      cases hk : badKind xs[j] with
      | true =>
        have HB := Lib.hid (idxM_at hlt hk hp.out)
        have HK := Lib.hid hk
        clear hk
        go_wp2_with fail
        refine (areStitches1_any _ _).mono ?_
        rintro e w' ⟨rfl, rfl⟩
        rw [HK.out]
        go_wp2
        go_ret
        exact ⟨ret_int HB.out.symm, rfl⟩
      | false =>
        have HK := Lib.hid hk
        clear hk
        go_wp2_with fail
        refine (areStitches1_any _ _).mono ?_
        rintro e w' ⟨rfl, rfl⟩
        rw [HK.out]
        go_wp2
        go_round
        case rel => exact ⟨j + 1, by omega, by go_num, fun i hi h => by
          by_cases e : i = j
          · subst e; exact HK.out
          · exact hp.out i hi (by omega)⟩
        case measure => simp [intOf]; omega
    · have HB := Lib.hid (idxM_none (p := badKind) (xs := xs) (fun i hi => hp.out i hi (by omega)))
      go_wp2
      go_ret
      exact ⟨ret_int HB.out.symm, rfl⟩
theorem areStitchesHas_any (w : World) (S : Nat → Prop) (v : Value) (xs : List Int) (h : Ints w S v xs) :
    Calls Tryz.prog 137 #[v, .func (.func 138) #[] #[]] w fun e w' => e = .returned (.bool (xs.any badKind)) ∧ w = w' := by
  obtain ⟨A, c, rfl, hlc, hcm, -⟩ := h.shape
  have H := Lib.hid h
  have HA := Lib.hid (idxM_any badKind xs)
  have hb := idxM_bd badKind xs
  clear h
  go_enter Tryz.func137, Tryz.ntmps137
  go_wp2_with fail
  refine (areStitchesIdx_any _ S _ xs H.out).mono ?_
  rintro e w' ⟨rfl, rfl⟩
  go_wp2
  go_ret
  exact ⟨ret_bool (by rw [← HA.out]), rfl⟩
theorem stB_any (xs : List Int) : stB xs = (decide (xs.length ≤ 16) && !xs.any badKind) := by
  unfold stB
  rw [Bool.and_comm]
  congr 1
  rw [Bool.eq_iff_iff, List.all_eq_true, Bool.not_eq_true', List.any_eq_false]
  simp [badKind]
theorem areStitches_any (w : World) (S : Nat → Prop) (v : Value) (xs : List Int) (h : Ints w S v xs) :
    Calls Tryz.prog 109 #[v] w fun e w' => e = .returned (.bool (stB xs)) ∧ w = w' := by
  obtain ⟨A, c, rfl, hlc, hcm, -⟩ := h.shape
  have H := Lib.hid h
  clear h
  by_cases hl : xs.length ≤ 16
  · have HS := Lib.hid (show stB xs = !xs.any badKind by rw [stB_any, decide_eq_true hl, Bool.true_and])
    go_enter Tryz.func109, Tryz.ntmps109
    go_wp2_with fail
    refine (areStitchesHas_any _ S _ xs H.out).mono ?_
    rintro e w' ⟨rfl, rfl⟩
    go_wp2
    go_ret
    exact ⟨ret_bool HS.out.symm, rfl⟩
  · have HS := Lib.hid (show stB xs = false by rw [stB_any, decide_eq_false hl, Bool.false_and])
    go_enter Tryz.func109, Tryz.ntmps109
    go_wp2
    go_ret
    exact ⟨ret_bool HS.out.symm, rfl⟩
set_option maxHeartbeats 1000000 in
theorem sTakenBy_yes (w : World) (S : Nat → Prop) (v : Value) (xs : List Int) (h : Ints w S v xs) (hs : stB xs = true) :
    Calls Tryz.prog 94 #[v] w fun e w' => e = .returned (.int .i64 (sumF takenK xs)) ∧ Up w w' := by
  obtain ⟨A, c, rfl, hlc, hcm, -⟩ := h.shape
  have H := Lib.hid h
  have HS := Lib.hid hs
  have hl := stB_len hs
  have HK := Lib.hid (stB_kind hs)
  clear h hs
  go_enter Tryz.func94, Tryz.ntmps94
  go_wp2_with fail
  refine (l14Ok_any _ S _ xs H.out).mono ?_
  rintro e w' ⟨rfl, rfl⟩
  rw [HS.out]
  go_wp2
  go_loopw [3, 4] (fun n i wr => ∃ j : Nat, j ≤ xs.length ∧ i = .int .i64 j ∧ n = .int .i64 (sumF takenK (xs.take j)) ∧ Hid (Up w wr)) (fun _ i _ => xs.length - (intOf i).toNat)
  case atStart => exact ⟨0, by omega, rfl, rfl, Chg.refl _ _⟩
  case round =>
    obtain ⟨j, hj, rfl, rfl, hg⟩ := hrel
    by_cases hlt : j < xs.length
    · obtain ⟨b, o, rfl, -, hc⟩ := H.out.ix hlt
      have f1 := Chg.cell hg.out (hc j hlt) id
      rw [ix_eq hlt] at f1
      have HT := Lib.hid (sumF_take takenK hlt)
      have HV := Lib.hid (takenOf_ok (HK.out _ (List.getElem_mem hlt)))
      have hb1 := takenK_bd xs[j]
      have hb2 := sumF_bd takenK 0 4 (by omega) (fun x => by have := takenK_bd x; omega) (xs.take j)
      rw [List.length_take, Nat.min_eq_left hj] at hb2
      clear hc
      go_wp2_with fail
      refine (sColumnsTaken_any _ _).mono ?_
      rintro e w1 ⟨rfl, g1⟩
      rw [HV.out]
      have G1 := Lib.hid g1
      clear g1 f1
      go_wp2
      go_roundw
      case rel => exact ⟨j + 1, by omega, by go_num, by rw [HT.out], Chg.trans hg.out G1.out⟩
      case measure => simp [intOf]; omega
    · obtain rfl : j = xs.length := by omega
      have HT := Lib.hid (show sumF takenK (xs.take xs.length) = sumF takenK xs by rw [List.take_length])
      go_wp2
      go_ret
      exact ⟨ret_int HT.out, hg.out⟩
theorem sTakenBy_any (w : World) (S : Nat → Prop) (v : Value) (xs : List Int) (h : Ints w S v xs) :
    Calls Tryz.prog 94 #[v] w fun e w' => e = .returned (.int .i64 (if stB xs then sumF takenK xs else -1)) ∧ Up w w' := by
  cases hs : stB xs with
  | true => exact sTakenBy_yes w S v xs h hs
  | false =>
    obtain ⟨A, c, rfl, hlc, hcm, -⟩ := h.shape
    have H := Lib.hid h
    have HS := Lib.hid hs
    clear h hs
    go_enter Tryz.func94, Tryz.ntmps94
    go_wp2_with fail
    refine (l14Ok_any _ S _ xs H.out).mono ?_
    rintro e w' ⟨rfl, rfl⟩
    rw [HS.out]
    go_wp2
    go_ret
    exact ⟨rfl, Chg.refl _ _⟩
set_option maxHeartbeats 1000000 in
theorem sMadeBy_yes (w : World) (S : Nat → Prop) (v : Value) (xs : List Int) (h : Ints w S v xs) (hs : stB xs = true) :
    Calls Tryz.prog 49 #[v] w fun e w' => e = .returned (.int .i64 (sumF madeK xs)) ∧ Up w w' := by
  obtain ⟨A, c, rfl, hlc, hcm, -⟩ := h.shape
  have H := Lib.hid h
  have HS := Lib.hid hs
  have hl := stB_len hs
  have HK := Lib.hid (stB_kind hs)
  clear h hs
  go_enter Tryz.func49, Tryz.ntmps49
  go_wp2_with fail
  refine (l14Ok_any _ S _ xs H.out).mono ?_
  rintro e w' ⟨rfl, rfl⟩
  rw [HS.out]
  go_wp2
  go_loopw [3, 4] (fun n i wr => ∃ j : Nat, j ≤ xs.length ∧ i = .int .i64 j ∧ n = .int .i64 (sumF madeK (xs.take j)) ∧ Hid (Up w wr)) (fun _ i _ => xs.length - (intOf i).toNat)
  case atStart => exact ⟨0, by omega, rfl, rfl, Chg.refl _ _⟩
  case round =>
    obtain ⟨j, hj, rfl, rfl, hg⟩ := hrel
    by_cases hlt : j < xs.length
    · obtain ⟨b, o, rfl, -, hc⟩ := H.out.ix hlt
      have f1 := Chg.cell hg.out (hc j hlt) id
      rw [ix_eq hlt] at f1
      have HT := Lib.hid (sumF_take madeK hlt)
      have HV := Lib.hid (madeOf_ok (HK.out _ (List.getElem_mem hlt)))
      have hb1 := madeK_bd xs[j]
      have hb2 := sumF_bd madeK 0 4 (by omega) (fun x => by have := madeK_bd x; omega) (xs.take j)
      rw [List.length_take, Nat.min_eq_left hj] at hb2
      clear hc
      go_wp2_with fail
      refine (sColumnsMade_any _ _).mono ?_
      rintro e w1 ⟨rfl, g1⟩
      rw [HV.out]
      have G1 := Lib.hid g1
      clear g1 f1
      go_wp2
      go_roundw
      case rel => exact ⟨j + 1, by omega, by go_num, by rw [HT.out], Chg.trans hg.out G1.out⟩
      case measure => simp [intOf]; omega
    · obtain rfl : j = xs.length := by omega
      have HT := Lib.hid (show sumF madeK (xs.take xs.length) = sumF madeK xs by rw [List.take_length])
      go_wp2
      go_ret
      exact ⟨ret_int HT.out, hg.out⟩
theorem sMadeBy_any (w : World) (S : Nat → Prop) (v : Value) (xs : List Int) (h : Ints w S v xs) :
    Calls Tryz.prog 49 #[v] w fun e w' => e = .returned (.int .i64 (if stB xs then sumF madeK xs else -1)) ∧ Up w w' := by
  cases hs : stB xs with
  | true => exact sMadeBy_yes w S v xs h hs
  | false =>
    obtain ⟨A, c, rfl, hlc, hcm, -⟩ := h.shape
    have H := Lib.hid h
    have HS := Lib.hid hs
    clear h hs
    go_enter Tryz.func49, Tryz.ntmps49
    go_wp2_with fail
    refine (l14Ok_any _ S _ xs H.out).mono ?_
    rintro e w' ⟨rfl, rfl⟩
    rw [HS.out]
    go_wp2
    go_ret
    exact ⟨rfl, Chg.refl _ _⟩
set_option maxHeartbeats 1000000 in
theorem takenBy_yes (w : World) (S : Nat → Prop) (v : Value) (xs : List Int) (h : Ints w S v xs) (hs : stB xs = true) :
    Calls Tryz.prog 111 #[v] w fun e w' => e = .returned (.int .i64 (sumF takenK xs)) ∧ w = w' := by
  obtain ⟨A, c, rfl, hlc, hcm, -⟩ := h.shape
  have H := Lib.hid h
  have HS := Lib.hid hs
  have hl := stB_len hs
  have HK := Lib.hid (stB_kind hs)
  clear h hs
  go_enter Tryz.func111, Tryz.ntmps111
  go_wp2
  go_loop [3, 5, 8] (fun n _ i => ∃ j : Nat, j ≤ xs.length ∧ i = .int .i64 j ∧ n = .int .i64 (sumF takenK (xs.take j))) (fun _ _ i => xs.length - (intOf i).toNat)
  case atStart => exact ⟨0, by omega, rfl, rfl⟩
  case round =>
    obtain ⟨j, hj, rfl, rfl⟩ := hrel
    by_cases hlt : j < xs.length
    · obtain ⟨b, o, rfl, -, hc⟩ := H.out.ix hlt
      have f1 := hc j hlt
      rw [ix_eq hlt] at f1
      have HT := Lib.hid (sumF_take takenK hlt)
      have HV := Lib.hid (takenOf_ok (HK.out _ (List.getElem_mem hlt)))
      have hb1 := takenK_bd xs[j]
      have hb2 := sumF_bd takenK 0 4 (by omega) (fun x => by have := takenK_bd x; omega) (xs.take j)
      rw [List.length_take, Nat.min_eq_left hj] at hb2
      clear hc
      go_wp2_with fail
      refine (ColumnsTaken_any _ _).mono ?_
      rintro e w1 ⟨rfl, rfl⟩
      rw [HV.out]
      go_wp2
      go_round
      case rel => exact ⟨j + 1, by omega, by go_num, by rw [HT.out]⟩
      case measure => simp [intOf]; omega
    · obtain rfl : j = xs.length := by omega
      have HT := Lib.hid (show sumF takenK (xs.take xs.length) = sumF takenK xs by rw [List.take_length])
      go_wp2
      go_ret
      exact ⟨ret_int (by first | rfl | exact HT.out), rfl⟩
end Go.Proofs.YtnjfhpgmogopnaaGreat
section
set_option linter.unusedSimpArgs false
set_option linter.unusedVariables false
namespace Go.Proofs.YtnjfhpgmogopnaaGreat
open Go.ChangeShapes Go.WideShapes Go.ChangeAt Go.RowKit
def stk1B (k : Int) : Bool := inB k 1 4
def stkB (xs : List Int) : Bool := xs.all stk1B && decide (xs.length ≤ 8)
theorem stkB_len {xs : List Int} (h : stkB xs = true) : xs.length ≤ 8 := by
  unfold stkB at h; rw [Bool.and_eq_true] at h; exact of_decide_eq_true h.2
theorem stkB_bd {xs : List Int} (h : stkB xs = true) : ∀ x ∈ xs, 1 ≤ x ∧ x ≤ 4 := by
  unfold stkB at h; rw [Bool.and_eq_true] at h
  intro x hx
  have := List.all_eq_true.1 h.1 x hx
  unfold stk1B inB at this
  exact of_decide_eq_true this
theorem stkB_of {xs : List Int} (h : ∀ i (hi : i < xs.length), stk1B xs[i] = true) : stkB xs = decide ((xs.length : Int) ≤ 8) := by
  unfold stkB
  have : xs.all stk1B = true := List.all_eq_true.2 fun x hx => by
    obtain ⟨i, hi, rfl⟩ := List.getElem_of_mem hx
    exact h i hi
  rw [this, Bool.true_and]
  exact decide_eq_decide.2 (by omega)
theorem stkB_not {xs : List Int} {i : Nat} (hi : i < xs.length) (h : stk1B xs[i] = false) : stkB xs = false := by
  unfold stkB
  have : xs.all stk1B = false := by
    rw [Bool.eq_false_iff]
    intro hh
    rw [List.all_eq_true.1 hh _ (List.getElem_mem hi)] at h
    cases h
  rw [this, Bool.false_and]
set_option maxHeartbeats 1000000 in
theorem l14Stacks_any (w : World) (S : Nat → Prop) (v : Value) (xs : List Int) (h : Ints w S v xs) :
    Calls Tryz.prog 125 #[v] w fun e w' => e = .returned (.bool (stkB xs)) ∧ w = w' := by
  obtain ⟨A, c, rfl, hlc, hcm, -⟩ := h.shape
  have H := Lib.hid h
  clear h
  go_enter Tryz.func125, Tryz.ntmps125
  go_wp2
  go_loop [3] (fun i => ∃ j : Nat, j ≤ xs.length ∧ i = .int .i64 j ∧ Hid (∀ i (hi : i < xs.length), i < j → stk1B xs[i] = true)) (fun i => xs.length - (intOf i).toNat)
  case atStart => exact ⟨0, by omega, rfl, fun i hi h => by omega⟩
  case round =>
    obtain ⟨j, hj, rfl, hp⟩ := hrel
    by_cases hlt : j < xs.length
    · obtain ⟨b, o, rfl, -, hc⟩ := H.out.ix hlt
      have f1 := hc j hlt
      rw [ix_eq hlt] at f1
      clear hc
      cases hk : stk1B xs[j] with
      | false =>
        have HB := Lib.hid (stkB_not hlt hk)
        have HK := Lib.hid hk
        clear hk
        go_wp2_with fail
        refine (l00In_any _ _ _ _).mono ?_
        rintro e w' ⟨rfl, rfl⟩
        rw [show inB _ 1 4 = _ from HK.out]
        go_wp2
        go_ret
        exact ⟨ret_bool HB.out.symm, rfl⟩
      | true =>
        have HK := Lib.hid hk
        clear hk
        go_wp2_with fail
        refine (l00In_any _ _ _ _).mono ?_
        rintro e w' ⟨rfl, rfl⟩
        rw [show inB _ 1 4 = _ from HK.out]
        go_wp2
        go_round
        case rel => exact ⟨j + 1, by omega, by go_num, fun i hi h => by
          by_cases e : i = j
          · subst e; exact HK.out
          · exact hp.out i hi (by omega)⟩
        case measure => simp [intOf]; omega
    · have HB := Lib.hid (stkB_of (xs := xs) (fun i hi => hp.out i hi (by omega)))
      go_wp2
      go_ret
      exact ⟨ret_bool HB.out.symm, rfl⟩
def badStk (k : Int) : Bool := !stk1B k
theorem areStacks1_any (k : Int) (w : World) : Calls Tryz.prog 140 #[.int .i64 k] w fun e w' => e = .returned (.bool (badStk k)) ∧ w = w' := by
  unfold badStk stk1B
  go_enter Tryz.func140, Tryz.ntmps140
  go_wp2_with fail
  refine (within_any _ _ _ _).mono ?_
  rintro e w' ⟨rfl, rfl⟩
  go_wp2
  go_ret
  exact ⟨rfl, rfl⟩
set_option maxHeartbeats 1000000 in
theorem areStacksIdx_any (w : World) (S : Nat → Prop) (v : Value) (xs : List Int) (h : Ints w S v xs) :
    Calls Tryz.prog 161 #[v, .func (.func 140) #[] #[]] w fun e w' => e = .returned (.int .i64 (idxM badStk xs)) ∧ w = w' := by
  obtain ⟨A, c, rfl, hlc, hcm, -⟩ := h.shape
  have H := Lib.hid h
  clear h
  go_enter Tryz.func161, Tryz.ntmps161
  go_wp2
  go_loop [5, 8] (fun _ i => ∃ j : Nat, j ≤ xs.length ∧ i = .int .i64 j ∧ Hid (∀ i (hi : i < xs.length), i < j → badStk xs[i] = false)) (fun _ i => xs.length - (intOf i).toNat)
  case atStart => exact ⟨0, by omega, rfl, fun i hi h => by omega⟩
  case round =>
    obtain ⟨j, hj, rfl, hp⟩ := hrel
    by_cases hlt : j < xs.length
    · obtain ⟨b, o, rfl, -, hc⟩ := H.out.ix hlt
      have f1 := hc j hlt
      rw [ix_eq hlt] at f1
      clear hc
      cases hk : badStk xs[j] with
      | true =>
        have HB := Lib.hid (idxM_at hlt hk hp.out)
        have HK := Lib.hid hk
        clear hk
        go_wp2_with fail
        refine (areStacks1_any _ _).mono ?_
        rintro e w' ⟨rfl, rfl⟩
        rw [HK.out]
        go_wp2
        go_ret
        exact ⟨ret_int HB.out.symm, rfl⟩
      | false =>
        have HK := Lib.hid hk
        clear hk
        go_wp2_with fail
        refine (areStacks1_any _ _).mono ?_
        rintro e w' ⟨rfl, rfl⟩
        rw [HK.out]
        go_wp2
        go_round
        case rel => exact ⟨j + 1, by omega, by go_num, fun i hi h => by
          by_cases e : i = j
          · subst e; exact HK.out
          · exact hp.out i hi (by omega)⟩
        case measure => simp [intOf]; omega
    · have HB := Lib.hid (idxM_none (p := badStk) (xs := xs) (fun i hi => hp.out i hi (by omega)))
      go_wp2
      go_ret
      exact ⟨ret_int HB.out.symm, rfl⟩
theorem areStacksHas_any (w : World) (S : Nat → Prop) (v : Value) (xs : List Int) (h : Ints w S v xs) :
    Calls Tryz.prog 137 #[v, .func (.func 140) #[] #[]] w fun e w' => e = .returned (.bool (xs.any badStk)) ∧ w = w' := by
  obtain ⟨A, c, rfl, hlc, hcm, -⟩ := h.shape
  have H := Lib.hid h
  have HA := Lib.hid (idxM_any badStk xs)
  have hb := idxM_bd badStk xs
  clear h
  go_enter Tryz.func137, Tryz.ntmps137
  go_wp2_with fail
  refine (areStacksIdx_any _ S _ xs H.out).mono ?_
  rintro e w' ⟨rfl, rfl⟩
  go_wp2
  go_ret
  exact ⟨ret_bool (by rw [← HA.out]), rfl⟩
theorem stkB_any (xs : List Int) : stkB xs = (decide (xs.length ≤ 8) && !xs.any badStk) := by
  unfold stkB
  rw [Bool.and_comm]
  congr 1
  rw [Bool.eq_iff_iff, List.all_eq_true, Bool.not_eq_true', List.any_eq_false]
  simp [badStk]
theorem areStacks_any (w : World) (S : Nat → Prop) (v : Value) (xs : List Int) (h : Ints w S v xs) :
    Calls Tryz.prog 110 #[v] w fun e w' => e = .returned (.bool (stkB xs)) ∧ w = w' := by
  obtain ⟨A, c, rfl, hlc, hcm, -⟩ := h.shape
  have H := Lib.hid h
  clear h
  by_cases hl : xs.length ≤ 8
  · have HS := Lib.hid (show stkB xs = !xs.any badStk by rw [stkB_any, decide_eq_true hl, Bool.true_and])
    go_enter Tryz.func110, Tryz.ntmps110
    go_wp2_with fail
    refine (areStacksHas_any _ S _ xs H.out).mono ?_
    rintro e w' ⟨rfl, rfl⟩
    go_wp2
    go_ret
    exact ⟨ret_bool HS.out.symm, rfl⟩
  · have HS := Lib.hid (show stkB xs = false by rw [stkB_any, decide_eq_false hl, Bool.false_and])
    go_enter Tryz.func110, Tryz.ntmps110
    go_wp2
    go_ret
    exact ⟨ret_bool HS.out.symm, rfl⟩
end Go.Proofs.YtnjfhpgmogopnaaGreat
end
namespace Go.Proofs.YtnjfhpgmogopnaaGreat
open Go.Proofs
open Go.Shelf
def Tryz.lays128_ren : Go.Shelf.Ren := ⟨fun | 128 => 155 | n => n, fun | 51 => 146 | 3 => 3 | 4 => 4 | 46 => 126 | 5 => 5 | 9 => 9 | n => n, fun | n => n⟩
theorem Tryz.lays128 : Go.Proofs.Lays.n128 Tryz.prog Tryz.lays128_ren := {
  mixed := by kernel_rfl
  f128 := Tryz.func155.trans (congrArg some (by kernel_rfl))
  t3 := Tryz.underlying3
  a3 := Tryz.isAgg3
  z3 := Tryz.sizeOf3
  v3 := Tryz.zeroValue3
  t4 := Tryz.underlying4
  a4 := Tryz.isAgg4
  z4 := Tryz.sizeOf4
  v4 := Tryz.zeroValue4
  t5 := Tryz.underlying5
  a5 := Tryz.isAgg5
  z5 := Tryz.sizeOf5
  v5 := Tryz.zeroValue5
  t9 := Tryz.underlying9
  a9 := Tryz.isAgg9
  z9 := Tryz.sizeOf9
  v9 := Tryz.zeroValue9
  t46 := Tryz.underlying126
  a46 := Tryz.isAgg126
  z46 := Tryz.sizeOf126
  v46 := Tryz.zeroValue126
  t51 := Tryz.underlying146
  a51 := Tryz.isAgg146
  z51 := Tryz.sizeOf146
  v51 := Tryz.zeroValue146 }
theorem Tryz.bits_Len32 (x : Int) (w : World) (h0 : 0 ≤ x) (h1 : x ≤ 4294967295) :
    Calls Tryz.prog 155 #[.int .u32 x] w fun e w' => e = .returned (.int .i64 (Lib.bitLen x.toNat)) ∧ w' = w := Any.bits_Len32 Tryz.lays128 x w h0 h1
def Tryz.lays125_ren : Go.Shelf.Ren := ⟨fun | 125 => 124 | 128 => 155 | 129 => 156 | n => n, fun | 46 => 126 | 3 => 3 | 51 => 146 | 53 => 149 | 4 => 4 | 5 => 5 | 9 => 9 | n => n, fun | n => n⟩
theorem Tryz.lays125 : Go.Proofs.Lays.n125 Tryz.prog Tryz.lays125_ren := {
  mixed := by kernel_rfl
  f125 := Tryz.func124.trans (congrArg some (by kernel_rfl))
  f128 := Tryz.func155.trans (congrArg some (by kernel_rfl))
  f129 := Tryz.func156.trans (congrArg some (by kernel_rfl))
  t3 := Tryz.underlying3
  a3 := Tryz.isAgg3
  z3 := Tryz.sizeOf3
  v3 := Tryz.zeroValue3
  t4 := Tryz.underlying4
  a4 := Tryz.isAgg4
  z4 := Tryz.sizeOf4
  v4 := Tryz.zeroValue4
  t5 := Tryz.underlying5
  a5 := Tryz.isAgg5
  z5 := Tryz.sizeOf5
  v5 := Tryz.zeroValue5
  t9 := Tryz.underlying9
  a9 := Tryz.isAgg9
  z9 := Tryz.sizeOf9
  v9 := Tryz.zeroValue9
  t46 := Tryz.underlying126
  a46 := Tryz.isAgg126
  z46 := Tryz.sizeOf126
  v46 := Tryz.zeroValue126
  t51 := Tryz.underlying146
  a51 := Tryz.isAgg146
  z51 := Tryz.sizeOf146
  v51 := Tryz.zeroValue146
  t53 := Tryz.underlying149
  a53 := Tryz.isAgg149
  z53 := Tryz.sizeOf149
  v53 := Tryz.zeroValue149 }
theorem Tryz.bits_Len (x : Int) (w : World) (h0 : 0 ≤ x) (h1 : x ≤ 18446744073709551615) :
    Calls Tryz.prog 124 #[.int .u64 x] w fun e w' => e = .returned (.int .i64 (Lib.bitLen x.toNat)) ∧ w' = w := Any.bits_Len Tryz.lays125 x w h0 h1
def Tryz.lays129_ren : Go.Shelf.Ren := ⟨fun | 129 => 156 | n => n, fun | 53 => 149 | 3 => 3 | 4 => 4 | 46 => 126 | 5 => 5 | 9 => 9 | n => n, fun | n => n⟩
theorem Tryz.lays129 : Go.Proofs.Lays.n129 Tryz.prog Tryz.lays129_ren := {
  mixed := by kernel_rfl
  f129 := Tryz.func156.trans (congrArg some (by kernel_rfl))
  t3 := Tryz.underlying3
  a3 := Tryz.isAgg3
  z3 := Tryz.sizeOf3
  v3 := Tryz.zeroValue3
  t4 := Tryz.underlying4
  a4 := Tryz.isAgg4
  z4 := Tryz.sizeOf4
  v4 := Tryz.zeroValue4
  t5 := Tryz.underlying5
  a5 := Tryz.isAgg5
  z5 := Tryz.sizeOf5
  v5 := Tryz.zeroValue5
  t9 := Tryz.underlying9
  a9 := Tryz.isAgg9
  z9 := Tryz.sizeOf9
  v9 := Tryz.zeroValue9
  t46 := Tryz.underlying126
  a46 := Tryz.isAgg126
  z46 := Tryz.sizeOf126
  v46 := Tryz.zeroValue126
  t53 := Tryz.underlying149
  a53 := Tryz.isAgg149
  z53 := Tryz.sizeOf149
  v53 := Tryz.zeroValue149 }
theorem Tryz.bits_Len64 (x : Int) (w : World) (h0 : 0 ≤ x) (h1 : x ≤ 18446744073709551615) :
    Calls Tryz.prog 156 #[.int .u64 x] w fun e w' => e = .returned (.int .i64 (Lib.bitLen x.toNat)) ∧ w' = w := Any.bits_Len64 Tryz.lays129 x w h0 h1
def Tryz.lays264_ren : Go.Shelf.Ren := ⟨fun | 264 => 136 | n => n, fun | 53 => 149 | 46 => 126 | n => n, fun | n => n⟩
theorem Tryz.lays264 : Go.Proofs.Lays.n264 Tryz.prog Tryz.lays264_ren := {
  mixed := by kernel_rfl
  f264 := Tryz.func136.trans (congrArg some (by kernel_rfl))
  t46 := Tryz.underlying126
  a46 := Tryz.isAgg126
  z46 := Tryz.sizeOf126
  v46 := Tryz.zeroValue126
  t53 := Tryz.underlying149
  a53 := Tryz.isAgg149
  z53 := Tryz.sizeOf149
  v53 := Tryz.zeroValue149 }
open Go.RowKit Go.Lib in
theorem Tryz.bits_Mul64 (x y : Nat) (hx : x < 18446744073709551616) (hy : y < 18446744073709551616) (w : World) :
    Calls Tryz.prog 136 #[.int .u64 x, .int .u64 y] w fun e w' => e = .returned (.tuple #[.int .u64 ((x * y / 18446744073709551616 : Nat) : Int), .int .u64 ((x * y % 18446744073709551616 : Nat) : Int)]) ∧ w' = w := Any.bits_Mul64 Tryz.lays264 x y hx hy w
def Tryz.lays212_ren : Go.Shelf.Ren := ⟨fun | 212 => 106 | 263 => 135 | 264 => 136 | n => n, fun | 46 => 126 | 51 => 146 | 146 => 147 | 53 => 149 | 148 => 150 | n => n, fun | n => n⟩
theorem Tryz.lays212 : Go.Proofs.Lays.n212 Tryz.prog Tryz.lays212_ren := {
  mixed := by kernel_rfl
  f212 := Tryz.func106.trans (congrArg some (by kernel_rfl))
  f263 := Tryz.func135.trans (congrArg some (by kernel_rfl))
  f264 := Tryz.func136.trans (congrArg some (by kernel_rfl))
  t46 := Tryz.underlying126
  a46 := Tryz.isAgg126
  z46 := Tryz.sizeOf126
  v46 := Tryz.zeroValue126
  t51 := Tryz.underlying146
  a51 := Tryz.isAgg146
  z51 := Tryz.sizeOf146
  v51 := Tryz.zeroValue146
  t53 := Tryz.underlying149
  a53 := Tryz.isAgg149
  z53 := Tryz.sizeOf149
  v53 := Tryz.zeroValue149
  t146 := Tryz.underlying147
  a146 := Tryz.isAgg147
  z146 := Tryz.sizeOf147
  v146 := Tryz.zeroValue147
  t148 := Tryz.underlying150
  a148 := Tryz.isAgg150
  z148 := Tryz.sizeOf150
  v148 := Tryz.zeroValue150 }
open Go.RowKit Go.Lib in
theorem Tryz.bits_Mul (x y : Nat) (hx : x < 18446744073709551616) (hy : y < 18446744073709551616) (w : World) :
    Calls Tryz.prog 106 #[.int .u64 x, .int .u64 y] w fun e w' => e = .returned (.tuple #[.int .u64 ((x * y / 18446744073709551616 : Nat) : Int), .int .u64 ((x * y % 18446744073709551616 : Nat) : Int)]) ∧ w' = w := Any.bits_Mul Tryz.lays212 x y hx hy w
open Go.RowKit Go.Lib in
open Go.RowKit Go.Lib in
open Go.RowKit Go.Lib in
open Go.Lib in
open Go.Lib in
open Go.Lib in
open Go.Lib in
open Go.RowKit Go.Lib in
def Tryz.laysSlE43_f138_ren : Go.Shelf.Ren := ⟨fun | 43 => 89 | n => n, fun | 22 => 26 | 23 => 2 | 3 => 3 | 4 => 4 | 0 => 0 | n => n, fun | n => n⟩
theorem Tryz.laysSlE43_f138 : Go.Proofs.SlLaysE.n43 Tryz.prog Tryz.laysSlE43_f138_ren := {
  mixed := by kernel_rfl
  f43 := ⟨Tryz.f89.name, by decide, Tryz.func89.trans (congrArg some (by kernel_rfl))⟩
  t0 := Tryz.underlying0
  a0 := Tryz.isAgg0
  z0 := Tryz.sizeOf0
  v0 := Tryz.zeroValue0
  t3 := Tryz.underlying3
  a3 := Tryz.isAgg3
  z3 := Tryz.sizeOf3
  v3 := Tryz.zeroValue3
  t4 := Tryz.underlying4
  a4 := Tryz.isAgg4
  z4 := Tryz.sizeOf4
  v4 := Tryz.zeroValue4
  t22 := Tryz.underlying26
  a22 := Tryz.isAgg26
  z22 := Tryz.sizeOf26
  v22 := Tryz.zeroValue26
  a23 := Tryz.isAgg2
  z23 := Tryz.sizeOf2 }
open Go.RowKit Go.Lib Go.Sort in
theorem Tryz.slices_Compact {α : Type} [Inhabited α] [DecidableEq α] (enc : α → Value) (hO : OneCell enc) (heq : EqlAt Tryz.prog 2 enc (fun x y => decide (x = y))) (hne : NeqAt Tryz.prog 2 enc (fun x y => decide (x = y))) (zr : α) (v23 : ∀ w, (zeroValue 2).run Tryz.prog w = .ok (enc zr) w) (blk off cap : Nat) (d : Array α) (w : World) (hH : Holds enc w blk off d) (hsz : d.size ≤ 9223372036854775807) (hcap : d.size ≤ cap) :
    Calls Tryz.prog 89 #[.slice (some ⟨blk, off, none⟩) d.size cap] w fun e w' => e = .returned (.slice (some ⟨blk, off, none⟩) (compactUpTo d d.size).length cap) ∧ ∃ q, w' = putRow enc (Sort.ahead w q) blk off (compactUpTo d d.size ++ List.replicate (d.size - (compactUpTo d d.size).length) zr).toArray := AnyE.slices_Compact Tryz.laysSlE43_f138 enc hO heq hne zr v23 blk off cap d w hH hsz hcap
open Go.RowKit Go.Lib in
open Go.RowKit Go.Lib in
open Go.RowKit Go.Lib in
def Tryz.laysSlH6_f200_ren : Go.Shelf.Ren := ⟨fun | 6 => 161 | n => n, fun | 22 => 26 | 23 => 2 | 25 => 97 | 3 => 3 | 0 => 0 | 4 => 4 | n => n, fun | n => n⟩
theorem Tryz.laysSlH6_f200 : Go.Proofs.SlLaysH.n6 Tryz.prog Tryz.laysSlH6_f200_ren := {
  mixed := by kernel_rfl
  f6 := ⟨Tryz.f161.name, by decide, Tryz.func161.trans (congrArg some (by kernel_rfl))⟩
  t0 := Tryz.underlying0
  a0 := Tryz.isAgg0
  z0 := Tryz.sizeOf0
  v0 := Tryz.zeroValue0
  t3 := Tryz.underlying3
  a3 := Tryz.isAgg3
  z3 := Tryz.sizeOf3
  v3 := Tryz.zeroValue3
  t4 := Tryz.underlying4
  a4 := Tryz.isAgg4
  z4 := Tryz.sizeOf4
  v4 := Tryz.zeroValue4
  t22 := Tryz.underlying26
  a22 := Tryz.isAgg26
  z22 := Tryz.sizeOf26
  v22 := Tryz.zeroValue26
  a23 := Tryz.isAgg2
  z23 := Tryz.sizeOf2
  t25 := Tryz.underlying97
  a25 := Tryz.isAgg97
  z25 := Tryz.sizeOf97
  v25 := Tryz.zeroValue97 }
open Go.RowKit Go.Lib in
theorem Tryz.slices_IndexFunc_f200 {α : Type} [Inhabited α] (enc : α → Value) (p : α → Bool) (g : Nat) (lb : Array Value) (eg : ∀ args w, (callFunc g args).run Tryz.prog w = .ok (.enter g args) w) (b off n c : Nat) (zs : List α) (w : World) (hp : PredAt Tryz.prog g lb enc p w) (hz : n ≤ zs.length) (hbig : n ≤ 9223372036854775807) (hc : ∀ j, j < zs.length → w.cell? ⟨b, off + j, none⟩ = some (enc zs[j]!)) :
    Calls Tryz.prog 161 #[.slice (some ⟨b, off, none⟩) n c, .func (.func g) #[] lb] w fun e w' => e = .returned (.int .i64 (Lib.idxBy (fun _ y => p y) (zs.take n) default)) ∧ ∃ q, w' = w.drewN q := AnyE.slices_IndexFunc Tryz.laysSlH6_f200 enc p g lb eg b off n c zs w hp hz hbig hc
open Go.RowKit Go.Lib in
open Go.RowKit Go.Lib in
theorem Tryz.slices_IndexFunc_empty_f200 {α : Type} [Inhabited α] (a : Option Addr) (c : Nat) (fv : Value) (w : World) :
    Calls Tryz.prog 161 #[.slice a 0 c, fv] w fun e w' => e = .returned (.int .i64 (-1)) ∧ w' = w := AnyE.slices_IndexFunc_empty Tryz.laysSlH6_f200 a c fv w
open Go.RowKit Go.Lib in
def Tryz.laysSlH8_f163_ren : Go.Shelf.Ren := ⟨fun | 8 => 137 | 6 => 161 | n => n, fun | 22 => 26 | 23 => 2 | 25 => 97 | 4 => 4 | 3 => 3 | 0 => 0 | n => n, fun | n => n⟩
theorem Tryz.laysSlH8_f163 : Go.Proofs.SlLaysH.n8 Tryz.prog Tryz.laysSlH8_f163_ren := {
  mixed := by kernel_rfl
  f6 := ⟨Tryz.f161.name, by decide, Tryz.func161.trans (congrArg some (by kernel_rfl))⟩
  f8 := ⟨Tryz.f137.name, by decide, Tryz.func137.trans (congrArg some (by kernel_rfl))⟩
  t0 := Tryz.underlying0
  a0 := Tryz.isAgg0
  z0 := Tryz.sizeOf0
  v0 := Tryz.zeroValue0
  t3 := Tryz.underlying3
  a3 := Tryz.isAgg3
  z3 := Tryz.sizeOf3
  v3 := Tryz.zeroValue3
  t4 := Tryz.underlying4
  a4 := Tryz.isAgg4
  z4 := Tryz.sizeOf4
  v4 := Tryz.zeroValue4
  t22 := Tryz.underlying26
  a22 := Tryz.isAgg26
  z22 := Tryz.sizeOf26
  v22 := Tryz.zeroValue26
  a23 := Tryz.isAgg2
  z23 := Tryz.sizeOf2
  t25 := Tryz.underlying97
  a25 := Tryz.isAgg97
  z25 := Tryz.sizeOf97
  v25 := Tryz.zeroValue97 }
open Go.RowKit Go.Lib in
theorem Tryz.slices_ContainsFunc_f163 {α : Type} [Inhabited α] (enc : α → Value) (p : α → Bool) (g : Nat) (lb : Array Value) (eg : ∀ args w, (callFunc g args).run Tryz.prog w = .ok (.enter g args) w) (b off n c : Nat) (zs : List α) (w : World) (hp : PredAt Tryz.prog g lb enc p w) (hz : n ≤ zs.length) (hbig : n ≤ 9223372036854775807) (hc : ∀ j, j < zs.length → w.cell? ⟨b, off + j, none⟩ = some (enc zs[j]!)) :
    Calls Tryz.prog 137 #[.slice (some ⟨b, off, none⟩) n c, .func (.func g) #[] lb] w fun e w' => e = .returned (.bool ((zs.take n).any p)) ∧ ∃ q, w' = w.drewN q := AnyE.slices_ContainsFunc Tryz.laysSlH8_f163 enc p g lb eg b off n c zs w hp hz hbig hc
open Go.RowKit Go.Lib in
open Go.RowKit Go.Lib in
theorem Tryz.slices_ContainsFunc_empty_f163 {α : Type} [Inhabited α] (a : Option Addr) (c : Nat) (fv : Value) (w : World) :
    Calls Tryz.prog 137 #[.slice a 0 c, fv] w fun e w' => e = .returned (.bool false) ∧ w' = w := AnyE.slices_ContainsFunc_empty Tryz.laysSlH8_f163 a c fv w
end Go.Proofs.YtnjfhpgmogopnaaGreat
section
set_option linter.unusedSimpArgs false
set_option linter.unusedVariables false
set_option maxRecDepth 100000
set_option maxHeartbeats 200000
namespace Go.Proofs.YtnjfhpgmogopnaaGreat
open Go.ChangeShapes Go.WideShapes Go.ChangeAt Go.RowKit
theorem madeCells_list (n : Nat) : madeCells #[.int .i64 0] n = (List.replicate n (Value.int .i64 0)).toArray := by
  apply Array.ext_getElem?
  intro t
  by_cases h : t < n
  · rw [madeInts_get n t h]; simp [h]
  · simp [madeCells, h]
def oneZ (k n : Nat) : List Value := List.replicate k (.int .i64 1) ++ List.replicate (n - k) (.int .i64 0)
theorem oneZ_length {k n : Nat} (h : k ≤ n) : (oneZ k n).length = n := by simp [oneZ]; omega
theorem oneZ_splice {k n m : Nat} (h : k + m ≤ n) : Go.splice (oneZ k n) k (List.replicate m (.int .i64 1)) = oneZ (k + m) n := by
  have e1 : (oneZ k n).take k = List.replicate k (.int .i64 1) := by unfold oneZ; exact List.take_left' (by simp)
  have e2 : (oneZ k n).drop (k + m) = List.replicate (n - (k + m)) (.int .i64 0) := by
    unfold oneZ
    rw [← List.drop_drop, List.drop_left' (by simp), List.drop_replicate]
    congr 1
    omega
  unfold Go.splice
  rw [List.length_replicate, e1, e2, ← List.append_assoc]
  simp [oneZ, List.replicate_append_replicate]
theorem repeat_any (w : World) (S : Nat → Prop) (v : Value) (h : Ints w S v [1]) (n : Nat) (hn : 1 ≤ n ∧ n ≤ 8) :
    Calls Tryz.prog 74 #[v, .int .i64 n] w fun e w' => ∃ v', e = .returned v' ∧ Ints w' (New w.heap.size w'.heap.size) v' (List.replicate n 1) ∧ Up w w' := by
  obtain ⟨A, c, rfl, hlc, hcm, -⟩ := h.shape
  obtain ⟨b, o, rfl, hbl, hcell⟩ := h.ix (i := 0) (by simp)
  have f0 : w.cell? ⟨b, o, none⟩ = some (.int .i64 1) := by have := hcell 0 (by simp); simpa [ix] using this
  have F0 := Lib.hid f0
  have HBL := Lib.hid hbl
  obtain ⟨i0, hi, hz0, hz1, hz2⟩ := info_parts info2
  have hmk : ∀ u : World, (Instr.makeSlice 26 (.int .i64 (n : Int)) (.int .i64 (n : Int))).run Tryz.prog u =
      .ok (.slice (some ⟨u.heap.size, 0, none⟩) n n) (u.alloc (.cells (madeCells #[.int .i64 0] n) 2)) := fun u => by
    have h := run_make (P := Tryz.prog) u 26 2 i0 (.int .i64 0) Tryz.underlying26 hi hz0 .i64 .i64 (n : Int) (n : Int) (by omega) (Int.le_refl _) (by rw [hz2]; omega) (by omega)
    simpa [hz1, Value.cells] using h
  have hsz1 : (Tryz.prog.info? 2).map (·.size) = some 1 := by rw [hi]; simp [hz1]
  have HSZ := Lib.hid hsz1
  have y1 : IntKind.u64.wrap (n : Int) = n := by unfold IntKind.wrap; simp [IntKind.signed, IntKind.bits]; omega
  have y2 : IntKind.i64.wrap (n : Int) = n := IntWalk.i64_in _ (by omega)
  have y3 : decide ((9223372036854775807 : Int) < n) = false := decide_eq_false (by omega)
  have hm : ∀ w : World, Calls Tryz.prog 106 #[.int .u64 1, .int .u64 n] w fun e w' => e = .returned (.tuple #[.int .u64 0, .int .u64 n]) ∧ w = w' := fun w => by
    have h := Tryz.bits_Mul 1 n (by omega) (by omega) w
    rw [show (1 * n / 18446744073709551616 : Nat) = 0 by omega, show (1 * n % 18446744073709551616 : Nat) = n by omega] at h
    exact h.mono fun e w' ⟨h1, h2⟩ => ⟨h1, h2.symm⟩
  have HM := Lib.hid hm
  have HMK := Lib.hid hmk
  clear h hcell f0 hbl hm hi hz0 hz1 hz2 hsz1
  go_enter Tryz.func74, Tryz.ntmps74
  go_wp2_with fail
  refine (HM.out _).mono ?_
  rintro e w' ⟨rfl, rfl⟩
  clear hmk
  have hmk := HMK.out
  have HH : Hid ((w.alloc (.cells (madeCells #[.int .i64 0] n) 2)).heap[w.heap.size]? = some (.cells (oneZ 0 n).toArray 2 (0, 0))) := Lib.hid (by rw [heap_alloc_new, madeCells_list]; simp [oneZ])
  go_wp2_with (refine wpList_copy_splice rfl _ _ 26 26 rfl 2 Tryz.underlying26 HSZ.out _ _ _ _ _ _ rfl rfl w.heap.size 0 (oneZ 0 n) 2 HH.out [.int .i64 1] (Nat.min_eq_left hn.1).symm (fun _ => ⟨rfl, _, rfl, fun j q hq => by (cases j with | zero => (simp at hq; subst hq; exact Chg.cell ((Chg.refl Nowhere w).alloc _) F0.out id) | succ j => simp at hq)⟩) (by rw [oneZ_length (by omega)]; simp; omega) (by simp [Value.oneCell']) w.heap.size w ((Below.refl _ w).alloc (Nat.le_refl _) _) (Nat.le_refl _) ?_; intro w1 hh1 hb1)
  go_loopw [8] (fun m wr => ∃ k : Nat, 1 ≤ k ∧ k ≤ n ∧ m = .int .i64 k ∧ Hid (wr.heap[w.heap.size]? = some (.cells (oneZ k n).toArray 2 (0, 0))) ∧ Hid (Below w.heap.size w wr)) (fun m _ => n - (intOf m).toNat)
  case atStart => exact ⟨1, by omega, by omega, rfl, by have h := hh1; rw [show Go.splice (oneZ 0 n) 0 [Value.int .i64 1] = oneZ 1 n from oneZ_splice (k := 0) (m := 1) (by omega)] at h; exact h, hb1⟩
  case round =>
    obtain ⟨k, hk1, hk2, rfl, hh, hb⟩ := hrel
    by_cases hlt : k < n
    · have hne : ¬ n = k := by omega
      have hks : (k : Int) ≤ n := by omega
      have hz : w.heap.size < wr.heap.size := (Array.getElem?_eq_some_iff.1 hh.out).1
      obtain ⟨m, HMN⟩ : ∃ m : Nat, Hid (m = min k (n - k)) := ⟨_, Lib.hid rfl⟩
      have hm1 : 1 ≤ m ∧ k + m ≤ n ∧ m ≤ k := by have := HMN.out; omega
      have y5 : IntKind.i64.wrap ((k : Int) + m) = ((k + m : Nat) : Int) := (IntWalk.i64_in _ (by omega)).trans (by omega)
      have hcs : ∀ j q, (List.replicate m (Value.int .i64 1))[j]? = some q → wr.cell? ((⟨w.heap.size, 0, none⟩ : Addr).add j) = some q := fun j q hq => by
        obtain ⟨hj, he⟩ := List.getElem?_eq_some_iff.1 hq
        have hj : j < m := by simpa using hj
        rw [add_zero]
        have e : (oneZ k n)[j]? = some (.int .i64 1) := by unfold oneZ; rw [List.getElem?_append, if_pos (by rw [List.length_replicate]; omega), List.getElem?_replicate, if_pos (by omega)]
        simp [World.cell?, hh.out, e] at he ⊢
        exact he
      have HCS := Lib.hid hcs
      have HMQ : Hid ((List.replicate m (Value.int .i64 1)).length = Nat.min k (n - k)) := Lib.hid (List.length_replicate.trans HMN.out)
      have HF : Hid (k + (List.replicate m (Value.int .i64 1)).length ≤ (oneZ k n).length) := Lib.hid (by rw [oneZ_length hk2, List.length_replicate]; omega)
      have HO : Hid (∀ q ∈ List.replicate m (Value.int .i64 1), q.oneCell' = true) := Lib.hid (fun q hq => by rw [List.eq_of_mem_replicate hq]; rfl)
      clear hcs
      go_wp2
      go_region_law (refine step_copy_splice rfl (.tmp 41) (.tmp 44) 26 26 rfl 2 Tryz.underlying26 HSZ.out (some ⟨w.heap.size, k, none⟩) (some ⟨w.heap.size, 0, none⟩) (n - k) (n - k) k n (by simp [Act.eval, Act.put]) (by simp [Act.eval, Act.put]) w.heap.size k (oneZ k n) 2 hh.out (List.replicate m (.int .i64 1)) HMQ.out (fun _ => ⟨rfl, _, rfl, HCS.out⟩) HF.out HO.out w.heap.size w (RowKit.Below.drew hb.out) (Nat.le_refl _) ?_; intro w2 hh2 hb2)
      simp [Act.put, goInt, y5]
      go_wp2
      go_roundw
      case rel => exact ⟨k + m, by omega, by omega, by first | rfl | go_num, by have h := hh2; rw [oneZ_splice (by omega)] at h; exact h, hb2⟩
      case measure => first | (simp [intOf]; omega) | (simp [intOf, y5]; omega)
    · obtain rfl : k = n := by omega
      go_wp2
      go_ret
      refine ⟨_, rfl, ?_, Chg.of_below hb.out⟩
      have hz : w.heap.size < wr.heap.size := (Array.getElem?_eq_some_iff.1 hh.out).1
      have e : oneZ k k = List.replicate k (.int .i64 1) := by simp [oneZ]
      rw [e] at hh
      have h0 := Ints.of_cells (w := wr) (S := New w.heap.size wr.heap.size) (g := w.heap.size) (c := k) (xs := List.replicate k 1) ⟨Nat.le_refl _, hz⟩ hz (by simp) (by omega) (fun x hx => by rw [List.eq_of_mem_replicate hx]; unfold I64; omega) (fun t ht => by
        have ht : t < k := by simpa using ht
        exact ⟨by simp [World.cell?, hh.out, ht], by simp [World.frozen?, hh.out]⟩)
      rw [List.length_replicate] at h0
      exact h0
end Go.Proofs.YtnjfhpgmogopnaaGreat
end
section
set_option linter.unusedSimpArgs false
set_option linter.unusedVariables false
set_option maxRecDepth 100000
set_option maxHeartbeats 1000000
namespace Go.Proofs.YtnjfhpgmogopnaaGreat
open Go.ChangeShapes Go.WideShapes Go.ChangeAt Go.RowKit
/-- what a stitch makes of the stacks a, b that it takes first -/
def stepS (k a b : Int) : List Int := if k = 6 then [a + 1] else if k = 7 then [a] else List.replicate (madeK k).toNat 1
def okS (k a b : Int) : Bool := if k = 6 then decide (a < 4) else if k = 4 ∨ k = 5 then decide (a + b ≤ 4) else true
theorem lit1 (w : World) (x : Int) (hx : I64 x) (lo : Nat) (hlo : lo ≤ w.heap.size) : Ints (w.alloc (.cells #[.int .i64 x] 2)) (New lo (w.alloc (.cells #[.int .i64 x] 2)).heap.size) (.slice (some ⟨w.heap.size, 0, none⟩) 1 1) [x] :=
  Ints.of_cells (xs := [x]) ⟨hlo, by simp⟩ (by simp) (by simp) (by omega) (by simpa using hx) (fun t ht => by
    obtain rfl : t = 0 := by simp at ht; omega
    exact ⟨cell_new _ _ _ _, frozen_new _ _ _ _⟩)
theorem madeStacks_any (w : World) (S : Nat → Prop) (v : Value) (t : List Int) (h : Ints w S v t) (k : Int) (hk : kindB k = true) (ht : (t.length : Int) = takenK k) (hb : ∀ x ∈ t, 1 ≤ x ∧ x ≤ 4) :
    Calls Tryz.prog 113 #[.int .i64 k, v] w fun e w' => ∃ v', e = .returned (.tuple #[v', .bool (okS k (ix t 0) (ix t 1))]) ∧ Ints w' (New w.heap.size w'.heap.size) v' (stepS k (ix t 0) (ix t 1)) ∧ Up w w' := by
  obtain ⟨A, c, rfl, hlc, hcm, -⟩ := h.shape
  have hix : ∀ i, i < t.length → 1 ≤ ix t i ∧ ix t i ≤ 4 := fun i hi => by rw [ix_eq hi]; exact hb _ (List.getElem_mem hi)
  have H := Lib.hid h
  clear h hb
  rcases kindB_cases hk with rfl | rfl | rfl | rfl | rfl | rfl | rfl | rfl | rfl | rfl | rfl
  · have hl : t.length = 1 := by have : takenK 1 = 1 := rfl; omega
    rw [hl]
    clear hix hk ht
    go_enter Tryz.func113, Tryz.ntmps113
    go_wp2_with fail
    refine (ColumnsMade_any _ _).mono ?_
    rintro e w' ⟨rfl, rfl⟩
    rw [show madeOf 1 = ((1 : Nat) : Int) from rfl]
    go_wp2_with fail
    refine (repeat_any _ _ _ (lit1 w 1 (by unfold I64; omega) w.heap.size (Nat.le_refl _)) 1 (by omega)).mono ?_
    rintro e w2 ⟨v2, rfl, k2, g2⟩
    have K2 := Lib.hid k2
    have G2 := Lib.hid (Chg.trans ((Chg.refl Nowhere w).alloc (.cells #[.int .i64 1] 2)) g2)
    obtain ⟨A2, c2, rfl, -⟩ := k2.shape
    clear k2 g2
    go_wp2
    go_ret2
    exact ⟨_, rfl, K2.out.mono (fun b _ hb => ⟨by have := hb.1; simp at this; omega, hb.2⟩), G2.out⟩
  · have hl : t.length = 1 := by have : takenK 2 = 1 := rfl; omega
    rw [hl]
    clear hix hk ht
    go_enter Tryz.func113, Tryz.ntmps113
    go_wp2_with fail
    refine (ColumnsMade_any _ _).mono ?_
    rintro e w' ⟨rfl, rfl⟩
    rw [show madeOf 2 = ((1 : Nat) : Int) from rfl]
    go_wp2_with fail
    refine (repeat_any _ _ _ (lit1 w 1 (by unfold I64; omega) w.heap.size (Nat.le_refl _)) 1 (by omega)).mono ?_
    rintro e w2 ⟨v2, rfl, k2, g2⟩
    have K2 := Lib.hid k2
    have G2 := Lib.hid (Chg.trans ((Chg.refl Nowhere w).alloc (.cells #[.int .i64 1] 2)) g2)
    obtain ⟨A2, c2, rfl, -⟩ := k2.shape
    clear k2 g2
    go_wp2
    go_ret2
    exact ⟨_, rfl, K2.out.mono (fun b _ hb => ⟨by have := hb.1; simp at this; omega, hb.2⟩), G2.out⟩
  · have hl : t.length = 0 := by have : takenK 3 = 0 := rfl; omega
    rw [hl]
    clear hix hk ht
    go_enter Tryz.func113, Tryz.ntmps113
    go_wp2_with fail
    refine (ColumnsMade_any _ _).mono ?_
    rintro e w' ⟨rfl, rfl⟩
    rw [show madeOf 3 = ((1 : Nat) : Int) from rfl]
    go_wp2_with fail
    refine (repeat_any _ _ _ (lit1 w 1 (by unfold I64; omega) w.heap.size (Nat.le_refl _)) 1 (by omega)).mono ?_
    rintro e w2 ⟨v2, rfl, k2, g2⟩
    have K2 := Lib.hid k2
    have G2 := Lib.hid (Chg.trans ((Chg.refl Nowhere w).alloc (.cells #[.int .i64 1] 2)) g2)
    obtain ⟨A2, c2, rfl, -⟩ := k2.shape
    clear k2 g2
    go_wp2
    go_ret2
    exact ⟨_, rfl, K2.out.mono (fun b _ hb => ⟨by have := hb.1; simp at this; omega, hb.2⟩), G2.out⟩
  · have hl : t.length = 2 := by have : takenK 4 = 2 := rfl; omega
    obtain ⟨b, o, rfl, hbl, hc⟩ := H.out.ix (i := 0) (by omega)
    have f0 := hc 0 (by omega)
    have f1 := hc 1 (by omega)
    rw [Nat.add_zero] at f0
    have hx0 := hix 0 (by omega)
    have hx1 := hix 1 (by omega)
    obtain ⟨a, HA⟩ : ∃ a, Hid (ix t 0 = a) := ⟨_, Lib.hid rfl⟩
    obtain ⟨a2, HA2⟩ : ∃ a2, Hid (ix t 1 = a2) := ⟨_, Lib.hid rfl⟩
    rw [HA.out] at f0 hx0
    rw [HA2.out] at f1 hx1
    rw [HA.out, HA2.out, hl]
    have y1 : IntKind.i64.wrap (a + a2) = a + a2 := IntWalk.i64_in _ (by omega)
    have g0 := Chg.cell ((Chg.refl Nowhere w).alloc (.cells #[.int .i64 1] 2)) f0 id
    have g1 := Chg.cell ((Chg.refl Nowhere w).alloc (.cells #[.int .i64 1] 2)) f1 id
    clear hc hix hk ht
    go_enter Tryz.func113, Tryz.ntmps113
    go_wp2
    go_region
    all_goals go_wp2
    all_goals go_ret2
    all_goals (refine ⟨_, rfl, ?_, by repeat (first | exact Chg.refl _ _ | apply Chg.drew | refine Chg.alloc ?_ _)⟩)
    all_goals first | exact lit1 _ 1 (by unfold I64; omega) _ (Nat.le_refl _) | exact (lit1 w 1 (by unfold I64; omega) _ (Nat.le_refl _)).up ((Chg.refl _ _).drew) | exact lit1 w.drew 1 (by unfold I64; omega) w.heap.size (Nat.le_refl _)
  · have hl : t.length = 2 := by have : takenK 5 = 2 := rfl; omega
    obtain ⟨b, o, rfl, hbl, hc⟩ := H.out.ix (i := 0) (by omega)
    have f0 := hc 0 (by omega)
    have f1 := hc 1 (by omega)
    rw [Nat.add_zero] at f0
    have hx0 := hix 0 (by omega)
    have hx1 := hix 1 (by omega)
    obtain ⟨a, HA⟩ : ∃ a, Hid (ix t 0 = a) := ⟨_, Lib.hid rfl⟩
    obtain ⟨a2, HA2⟩ : ∃ a2, Hid (ix t 1 = a2) := ⟨_, Lib.hid rfl⟩
    rw [HA.out] at f0 hx0
    rw [HA2.out] at f1 hx1
    rw [HA.out, HA2.out, hl]
    have y1 : IntKind.i64.wrap (a + a2) = a + a2 := IntWalk.i64_in _ (by omega)
    have g0 := Chg.cell ((Chg.refl Nowhere w).alloc (.cells #[.int .i64 1] 2)) f0 id
    have g1 := Chg.cell ((Chg.refl Nowhere w).alloc (.cells #[.int .i64 1] 2)) f1 id
    clear hc hix hk ht
    go_enter Tryz.func113, Tryz.ntmps113
    go_wp2
    go_region
    all_goals go_wp2
    all_goals go_ret2
    all_goals (refine ⟨_, rfl, ?_, by repeat (first | exact Chg.refl _ _ | apply Chg.drew | refine Chg.alloc ?_ _)⟩)
    all_goals first | exact lit1 _ 1 (by unfold I64; omega) _ (Nat.le_refl _) | exact (lit1 w 1 (by unfold I64; omega) _ (Nat.le_refl _)).up ((Chg.refl _ _).drew) | exact lit1 w.drew 1 (by unfold I64; omega) w.heap.size (Nat.le_refl _)
  · have hl : t.length = 1 := by have : takenK 6 = 1 := rfl; omega
    obtain ⟨b, o, rfl, hbl, hc⟩ := H.out.ix (i := 0) (by omega)
    have f0 := hc 0 (by omega)
    rw [Nat.add_zero] at f0
    have hx0 := hix 0 (by omega)
    obtain ⟨a, HA⟩ : ∃ a, Hid (ix t 0 = a) := ⟨_, Lib.hid rfl⟩
    rw [HA.out] at f0 hx0
    rw [HA.out, hl]
    have y1 : IntKind.i64.wrap (a + 1) = a + 1 := IntWalk.i64_in _ (by omega)
    have f1 := Chg.cell ((Chg.refl Nowhere w).alloc (.cells #[.int .i64 (a + 1)] 2)) f0 id
    clear hc hix hk ht
    go_enter Tryz.func113, Tryz.ntmps113
    go_wp2
    go_region
    all_goals go_wp2
    all_goals go_ret2
    all_goals (refine ⟨_, rfl, ?_, by repeat (first | exact Chg.refl _ _ | apply Chg.drew | refine Chg.alloc ?_ _)⟩)
    all_goals first | exact lit1 _ (a + 1) (by unfold I64; omega) _ (Nat.le_refl _) | exact (lit1 w (a + 1) (by unfold I64; omega) _ (Nat.le_refl _)).up ((Chg.refl _ _).drew) | exact lit1 w.drew (a + 1) (by unfold I64; omega) w.heap.size (Nat.le_refl _)
  · have hl : t.length = 1 := by have : takenK 7 = 1 := rfl; omega
    obtain ⟨b, o, rfl, hbl, hc⟩ := H.out.ix (i := 0) (by omega)
    have f0 := hc 0 (by omega)
    rw [Nat.add_zero] at f0
    have hx0 := hix 0 (by omega)
    obtain ⟨a, HA⟩ : ∃ a, Hid (ix t 0 = a) := ⟨_, Lib.hid rfl⟩
    rw [HA.out] at f0 hx0
    rw [HA.out, hl]
    clear hc hix hk ht
    go_enter Tryz.func113, Tryz.ntmps113
    go_wp2
    all_goals go_ret2
    all_goals (refine ⟨_, rfl, ?_, by repeat (first | exact Chg.refl _ _ | apply Chg.drew | refine Chg.alloc ?_ _)⟩)
    all_goals first | exact lit1 _ a (by unfold I64; omega) _ (Nat.le_refl _) | exact (lit1 w a (by unfold I64; omega) _ (Nat.le_refl _)).up ((Chg.refl _ _).drew) | exact lit1 w.drew a (by unfold I64; omega) w.heap.size (Nat.le_refl _)
  · have hl : t.length = 2 := by have : takenK 8 = 2 := rfl; omega
    rw [hl]
    clear hix hk ht
    go_enter Tryz.func113, Tryz.ntmps113
    go_wp2_with fail
    refine (ColumnsMade_any _ _).mono ?_
    rintro e w' ⟨rfl, rfl⟩
    rw [show madeOf 8 = ((2 : Nat) : Int) from rfl]
    go_wp2_with fail
    refine (repeat_any _ _ _ (lit1 w 1 (by unfold I64; omega) w.heap.size (Nat.le_refl _)) 2 (by omega)).mono ?_
    rintro e w2 ⟨v2, rfl, k2, g2⟩
    have K2 := Lib.hid k2
    have G2 := Lib.hid (Chg.trans ((Chg.refl Nowhere w).alloc (.cells #[.int .i64 1] 2)) g2)
    obtain ⟨A2, c2, rfl, -⟩ := k2.shape
    clear k2 g2
    go_wp2
    go_ret2
    exact ⟨_, rfl, K2.out.mono (fun b _ hb => ⟨by have := hb.1; simp at this; omega, hb.2⟩), G2.out⟩
  · have hl : t.length = 2 := by have : takenK 9 = 2 := rfl; omega
    rw [hl]
    clear hix hk ht
    go_enter Tryz.func113, Tryz.ntmps113
    go_wp2_with fail
    refine (ColumnsMade_any _ _).mono ?_
    rintro e w' ⟨rfl, rfl⟩
    rw [show madeOf 9 = ((2 : Nat) : Int) from rfl]
    go_wp2_with fail
    refine (repeat_any _ _ _ (lit1 w 1 (by unfold I64; omega) w.heap.size (Nat.le_refl _)) 2 (by omega)).mono ?_
    rintro e w2 ⟨v2, rfl, k2, g2⟩
    have K2 := Lib.hid k2
    have G2 := Lib.hid (Chg.trans ((Chg.refl Nowhere w).alloc (.cells #[.int .i64 1] 2)) g2)
    obtain ⟨A2, c2, rfl, -⟩ := k2.shape
    clear k2 g2
    go_wp2
    go_ret2
    exact ⟨_, rfl, K2.out.mono (fun b _ hb => ⟨by have := hb.1; simp at this; omega, hb.2⟩), G2.out⟩
  · have hl : t.length = 4 := by have : takenK 10 = 4 := rfl; omega
    rw [hl]
    clear hix hk ht
    go_enter Tryz.func113, Tryz.ntmps113
    go_wp2_with fail
    refine (ColumnsMade_any _ _).mono ?_
    rintro e w' ⟨rfl, rfl⟩
    rw [show madeOf 10 = ((4 : Nat) : Int) from rfl]
    go_wp2_with fail
    refine (repeat_any _ _ _ (lit1 w 1 (by unfold I64; omega) w.heap.size (Nat.le_refl _)) 4 (by omega)).mono ?_
    rintro e w2 ⟨v2, rfl, k2, g2⟩
    have K2 := Lib.hid k2
    have G2 := Lib.hid (Chg.trans ((Chg.refl Nowhere w).alloc (.cells #[.int .i64 1] 2)) g2)
    obtain ⟨A2, c2, rfl, -⟩ := k2.shape
    clear k2 g2
    go_wp2
    go_ret2
    exact ⟨_, rfl, K2.out.mono (fun b _ hb => ⟨by have := hb.1; simp at this; omega, hb.2⟩), G2.out⟩
  · have hl : t.length = 4 := by have : takenK 11 = 4 := rfl; omega
    rw [hl]
    clear hix hk ht
    go_enter Tryz.func113, Tryz.ntmps113
    go_wp2_with fail
    refine (ColumnsMade_any _ _).mono ?_
    rintro e w' ⟨rfl, rfl⟩
    rw [show madeOf 11 = ((4 : Nat) : Int) from rfl]
    go_wp2_with fail
    refine (repeat_any _ _ _ (lit1 w 1 (by unfold I64; omega) w.heap.size (Nat.le_refl _)) 4 (by omega)).mono ?_
    rintro e w2 ⟨v2, rfl, k2, g2⟩
    have K2 := Lib.hid k2
    have G2 := Lib.hid (Chg.trans ((Chg.refl Nowhere w).alloc (.cells #[.int .i64 1] 2)) g2)
    obtain ⟨A2, c2, rfl, -⟩ := k2.shape
    clear k2 g2
    go_wp2
    go_ret2
    exact ⟨_, rfl, K2.out.mono (fun b _ hb => ⟨by have := hb.1; simp at this; omega, hb.2⟩), G2.out⟩
end Go.Proofs.YtnjfhpgmogopnaaGreat
end
namespace Go.Proofs.YtnjfhpgmogopnaaGreat
open Go.ChangeShapes Go.WideShapes Go.ChangeAt Go.RowKit
theorem Ints.part {w : World} {S : Nat → Prop} {A A' : Option Addr} {c c' k : Nat} {xs : List Int} (h : Ints w S (.slice A xs.length c) xs) (i : Nat) (hik : i + k ≤ xs.length) (hc : k ≤ c') (hc2 : c' ≤ 9223372036854775807)
    (hA : ∀ b o, A = some ⟨b, o, none⟩ → 0 < k → A' = some ⟨b, o + i, none⟩) (hn : A' = none → c' = 0) : Ints w S (.slice A' k c') ((xs.drop i).take k) := by
  obtain ⟨A0, c0, he, h1, h2, h3, h4, h5⟩ := h
  obtain ⟨rfl, rfl⟩ : A = A0 ∧ c = c0 := by simpa using he
  have hlen : ((xs.drop i).take k).length = k := by rw [List.length_take, List.length_drop]; omega
  refine ⟨A', c', by rw [hlen], by rw [hlen]; exact hc, hc2, fun x hx => h3 x (List.mem_of_mem_drop (List.mem_of_mem_take hx)), fun hp => ?_, hn⟩
  rw [hlen] at hp
  obtain ⟨b, o, hA0, hS, hb, hcell⟩ := h4 (by omega)
  refine ⟨b, o + i, hA b o hA0 hp, hS, hb, fun t ht => ?_⟩
  rw [hlen] at ht
  have h9 := hcell (i + t) (by omega)
  rw [← Nat.add_assoc] at h9
  have e3 : ((xs.drop i).take k)[t]'(by omega) = xs[i + t]'(by omega) := by simp
  rw [e3]
  exact h9
theorem Ints.took {w : World} {S : Nat → Prop} {A : Option Addr} {c k c2 : Nat} {xs : List Int} (h : Ints w S (.slice A xs.length c) xs) (hk : k ≤ xs.length) (hc2 : c2 = c) : Ints w S (.slice A k c2) (xs.take k) := by
  subst hc2
  obtain ⟨A', c', he, h1, h2, h3⟩ := h.shape
  obtain ⟨rfl, rfl⟩ : A = A' ∧ c2 = c' := by simpa using he
  have := h.part (A' := A) (c' := c2) 0 (k := k) (by omega) (by omega) h2 (fun b' o' e _ => by simpa using e) h3
  simpa using this
theorem Ints.dropt {w : World} {S : Nat → Prop} {A A' : Option Addr} {c k c2 n : Nat} {xs : List Int} (h : Ints w S (.slice A xs.length c) xs) (hk : k ≤ xs.length) (hn : n = xs.length - k) (hc2 : c2 = c - k) (hA : ∀ b o, A = some ⟨b, o, none⟩ → k < xs.length → A' = some ⟨b, o + k, none⟩) (hA2 : A' = none → c2 = 0) : Ints w S (.slice A' n c2) (xs.drop k) := by
  subst hc2 hn
  obtain ⟨A0, c', he, h1, h2, h3⟩ := h.shape
  obtain ⟨rfl, rfl⟩ : A = A0 ∧ c = c' := by simpa using he
  have := h.part (A' := A') (c' := c - k) k (k := xs.length - k) (by omega) (by omega) (by omega) (fun b o e hp => hA b o e (by omega)) hA2
  rwa [List.take_of_length_le (by simp)] at this
/-- how many columns are taken ahead of a stitch -/
def posS (ks : List Int) (j : Nat) : Nat := (sumF takenK (ks.take j)).toNat
theorem sumF_nonneg (ks : List Int) : 0 ≤ sumF takenK ks := by
  have := sumF_bd takenK 0 4 (by omega) (fun x => by have := takenK_bd x; omega) ks
  omega
theorem posS_int (ks : List Int) (j : Nat) : (posS ks j : Int) = sumF takenK (ks.take j) := by
  unfold posS
  have := sumF_nonneg (ks.take j)
  omega
theorem posS_succ {ks : List Int} {j : Nat} (h : j < ks.length) : posS ks (j + 1) = posS ks j + (takenK ks[j]).toNat := by
  have h1 := posS_int ks j
  have h2 := posS_int ks (j + 1)
  rw [sumF_take takenK h] at h2
  have := takenK_bd ks[j]
  omega
theorem posS_le (ks : List Int) (j : Nat) : (posS ks j : Int) ≤ sumF takenK ks := by
  rw [posS_int]
  have h : sumF takenK ks = sumF takenK (ks.take j) + sumF takenK (ks.drop j) := by rw [← sumF_append, List.take_append_drop]
  have := sumF_nonneg (ks.drop j)
  omega
def stepAt (st ks : List Int) (i : Nat) : List Int := stepS (ix ks i) (ix st (posS ks i)) (ix st (posS ks i + 1))
def okAt (st ks : List Int) (i : Nat) : Bool := okS (ix ks i) (ix st (posS ks i)) (ix st (posS ks i + 1))
def aftTo (st ks : List Int) (j : Nat) : List Int := (List.range j).flatMap (stepAt st ks)
def okTo (st ks : List Int) (j : Nat) : Bool := (List.range j).all (okAt st ks)
theorem aftTo_succ (st ks : List Int) (j : Nat) : aftTo st ks (j + 1) = aftTo st ks j ++ stepAt st ks j := by
  unfold aftTo; rw [List.range_succ, List.flatMap_append]; simp
theorem okTo_succ (st ks : List Int) (j : Nat) : okTo st ks (j + 1) = (okTo st ks j && okAt st ks j) := by
  unfold okTo; rw [List.range_succ, List.all_append]; simp
theorem okTo_false {st ks : List Int} {j n : Nat} (hj : j < n) (h : okAt st ks j = false) : okTo st ks n = false := by
  unfold okTo
  rw [Bool.eq_false_iff]
  intro hh
  rw [List.all_eq_true.1 hh j (by simpa using hj)] at h
  cases h
theorem stepS_length (k a b : Int) : (stepS k a b).length ≤ 4 := by
  unfold stepS
  have := madeK_bd k
  split
  · simp
  · split
    · simp
    · rw [List.length_replicate]; omega
theorem aftTo_len (st ks : List Int) (j : Nat) : (aftTo st ks j).length ≤ 4 * j := by
  induction j with
  | zero => simp [aftTo]
  | succ j ih =>
    rw [aftTo_succ, List.length_append]
    have := stepS_length (ix ks j) (ix st (posS ks j)) (ix st (posS ks j + 1))
    unfold stepAt
    omega
/-- the code of StacksAfter; what it returns -/
def saC (st ks : List Int) : Int := if stkB st && stB ks then (if sumF takenK ks = st.length then (if okTo st ks ks.length && decide ((aftTo st ks ks.length).length ≤ 8) then 0 else 5) else 10) else 1
def saL (st ks : List Int) : List Int := if saC st ks = 0 then aftTo st ks ks.length else []
end Go.Proofs.YtnjfhpgmogopnaaGreat
namespace Go.Proofs.YtnjfhpgmogopnaaGreat
open Go.ChangeShapes Go.WideShapes Go.ChangeAt Go.RowKit
structure RowM where
  d : Int
  c : Int
  xs : List Int
/-- a row by value -/
def RowV (w : World) (S : Nat → Prop) (v : Value) (r : RowM) : Prop := ∃ s, v = .agg #[.int .i64 r.d, .int .i64 r.c, s] ∧ Ints w S s r.xs ∧ I64 r.d ∧ I64 r.c
theorem RowV.keep {S T : Nat → Prop} {w w' : World} {v : Value} {r : RowM} (h : RowV w S v r) (g : Chg T w w') (hd : ∀ b, b < w.heap.size → S b → ¬ T b) : RowV w' S v r :=
  let ⟨s, h1, h2, h3⟩ := h; ⟨s, h1, h2.keep g hd, h3⟩
theorem RowV.up {S : Nat → Prop} {w w' : World} {v : Value} {r : RowM} (h : RowV w S v r) (g : Up w w') : RowV w' S v r := h.keep g fun _ _ _ h => h
theorem RowV.shape {w : World} {S : Nat → Prop} {v : Value} {r : RowM} (h : RowV w S v r) : ∃ A c, v = .agg #[.int .i64 r.d, .int .i64 r.c, .slice A r.xs.length c] ∧ Ints w S (.slice A r.xs.length c) r.xs ∧ r.xs.length ≤ c ∧ c ≤ 9223372036854775807 ∧ (I64 r.d ∧ I64 r.c) ∧ (A = none → c = 0) := by
  obtain ⟨s, h1, h2, h3, h4⟩ := h
  obtain ⟨A, c, rfl, h5, h6, h7⟩ := h2.shape
  exact ⟨A, c, h1, h2, h5, h6, ⟨h3, h4⟩, h7⟩
/-- a row behind a pointer -/
def RowAt (w : World) (S : Nat → Prop) (b o : Nat) (r : RowM) : Prop :=
  ∃ A c, w.cell? ⟨b, o, none⟩ = some (.int .i64 r.d) ∧ w.cell? ⟨b, o + 1, none⟩ = some (.int .i64 r.c) ∧ w.cell? ⟨b, o + 2, none⟩ = some (.slice A r.xs.length c) ∧ Ints w S (.slice A r.xs.length c) r.xs ∧ r.xs.length ≤ c ∧ c ≤ 9223372036854775807 ∧ (I64 r.d ∧ I64 r.c) ∧ b < w.heap.size
theorem RowAt.keep {S T : Nat → Prop} {w w' : World} {b o : Nat} {r : RowM} (h : RowAt w S b o r) (g : Chg T w w') (hd : ∀ b, b < w.heap.size → S b → ¬ T b) (hb : ¬ T b) : RowAt w' S b o r := by
  obtain ⟨A, c, h1, h2, h3, h4, h5, h6, h7, h8⟩ := h
  exact ⟨A, c, g.cell h1 hb, g.cell h2 hb, g.cell h3 hb, h4.keep g hd, h5, h6, h7, Nat.lt_of_lt_of_le h8 g.size⟩
theorem RowAt.up {S : Nat → Prop} {w w' : World} {b o : Nat} {r : RowM} (h : RowAt w S b o r) (g : Up w w') : RowAt w' S b o r := h.keep g (fun _ _ _ h => h) id
theorem RowAt.box {w : World} {S : Nat → Prop} {v : Value} {r : RowM} (h : RowV w S v r) (t : TypeId) : ∃ cs, v = .agg cs ∧ RowAt (w.alloc (.cells cs t)) S w.heap.size 0 r := by
  obtain ⟨A, c, rfl, h2, h3, h4, h5, _⟩ := h.shape
  exact ⟨_, rfl, A, c, cell_new _ _ _ _, cell_new _ _ _ _, cell_new _ _ _ _, h2.up ((Chg.refl _ _).alloc _), h3, h4, h5, by simp⟩
theorem rowB_no1 {r : RowM} (h : ¬ (r.d = 1 ∨ r.d = -1)) : rowB r.d r.c r.xs = false := by unfold rowB dirP; rw [decide_eq_false h]; rfl
theorem rowB_no2 {r : RowM} (h : ¬ (1 ≤ r.c ∧ r.c ≤ 4)) : rowB r.d r.c r.xs = false := by unfold rowB carP inB; rw [decide_eq_false h, Bool.and_false]; rfl
theorem rowB_eq {r : RowM} (h : r.d = 1 ∨ r.d = -1) (h2 : 1 ≤ r.c ∧ r.c ≤ 4) : rowB r.d r.c r.xs = stB r.xs := by unfold rowB dirP carP inB; rw [decide_eq_true h, decide_eq_true h2]; rfl
set_option maxHeartbeats 1000000 in
theorem l15Row_any (w : World) (S : Nat → Prop) (b o : Nat) (r : RowM) (h : RowAt w S b o r) :
    Calls Tryz.prog 90 #[.pointer (some ⟨b, o, none⟩)] w fun e w' => e = .returned (.bool (rowB r.d r.c r.xs)) ∧ w = w' := by
  obtain ⟨A, c, h1, h2, h3, h4, h5, h6, ⟨h7, h8⟩, h9⟩ := h
  have H := Lib.hid h4
  clear h4
  by_cases hd1 : r.d = 1
  · have k1 : (r.d == 1) = true := by simpa using hd1
    by_cases hc : 1 ≤ r.c ∧ r.c ≤ 4
    · have HB := Lib.hid (rowB_eq (.inl hd1) hc)
      have HC := Lib.hid hc
      clear hd1 hc h7 h8
      go_enter Tryz.func90, Tryz.ntmps90
      go_wp2_with fail
      refine (l00In_yes _ _ _ _ HC.out).mono ?_
      rintro e w' ⟨rfl, rfl⟩
      go_wp2_with fail
      refine (l14Ok_any _ S _ r.xs H.out).mono ?_
      rintro e w' ⟨rfl, rfl⟩
      go_wp2
      go_ret
      exact ⟨ret_bool HB.out.symm, rfl⟩
    · have HB := Lib.hid (rowB_no2 hc)
      have HC := Lib.hid (show r.c < 1 ∨ 4 < r.c by omega)
      clear hd1 hc h7 h8
      go_enter Tryz.func90, Tryz.ntmps90
      go_wp2_with fail
      refine (l00In_no _ _ _ _ HC.out).mono ?_
      rintro e w' ⟨rfl, rfl⟩
      go_wp2
      go_ret
      exact ⟨ret_bool HB.out.symm, rfl⟩
  · have k1 : (r.d == 1) = false := by simpa using hd1
    by_cases hd2 : r.d = -1
    · have k2 : (r.d == -1) = true := by simpa using hd2
      by_cases hc : 1 ≤ r.c ∧ r.c ≤ 4
      · have HB := Lib.hid (rowB_eq (.inr hd2) hc)
        have HC := Lib.hid hc
        clear hd1 hd2 hc h7 h8
        go_enter Tryz.func90, Tryz.ntmps90
        go_wp2_with fail
        refine (l00In_yes _ _ _ _ HC.out).mono ?_
        rintro e w' ⟨rfl, rfl⟩
        go_wp2_with fail
        refine (l14Ok_any _ S _ r.xs H.out).mono ?_
        rintro e w' ⟨rfl, rfl⟩
        go_wp2
        go_ret
        exact ⟨ret_bool HB.out.symm, rfl⟩
      · have HB := Lib.hid (rowB_no2 hc)
        have HC := Lib.hid (show r.c < 1 ∨ 4 < r.c by omega)
        clear hd1 hd2 hc h7 h8
        go_enter Tryz.func90, Tryz.ntmps90
        go_wp2_with fail
        refine (l00In_no _ _ _ _ HC.out).mono ?_
        rintro e w' ⟨rfl, rfl⟩
        go_wp2
        go_ret
        exact ⟨ret_bool HB.out.symm, rfl⟩
    · have k2 : (r.d == -1) = false := by simpa using hd2
      have HB := Lib.hid (rowB_no1 (r := r) (fun hh => hh.elim hd1 hd2))
      clear hd1 hd2 h7 h8
      go_enter Tryz.func90, Tryz.ntmps90
      go_wp2
      go_ret
      exact ⟨ret_bool HB.out.symm, rfl⟩
set_option maxHeartbeats 1000000 in
theorem ValidRow_any (w : World) (S : Nat → Prop) (v : Value) (r : RowM) (h : RowV w S v r) :
    Calls Tryz.prog 75 #[v] w fun e w' => e = .returned (.bool (rowB r.d r.c r.xs)) ∧ Up w w' := by
  obtain ⟨A, c, rfl, h4, h5, h6, ⟨h7, h8⟩, -⟩ := h.shape
  have H := Lib.hid h4
  clear h4 h
  by_cases hd : r.d = 1 ∨ r.d = -1
  · have HD := Lib.hid hd
    by_cases hc : 1 ≤ r.c ∧ r.c ≤ 4
    · have HB := Lib.hid (rowB_eq hd hc)
      have HC := Lib.hid hc
      clear hd hc h7 h8
      go_enter Tryz.func75, Tryz.ntmps75
      go_wp2_with fail
      refine (isDirection_yes _ _ HD.out).mono ?_
      rintro e w' ⟨rfl, rfl⟩
      go_wp2_with fail
      refine (isCarrier_yes _ _ HC.out).mono ?_
      rintro e w' ⟨rfl, rfl⟩
      go_wp2_with fail
      refine (areStitches_any _ S _ r.xs (H.out.up (by repeat (first | exact Chg.refl _ _ | apply Chg.drew | apply Chg.drewN | refine Chg.alloc ?_ _)))).mono ?_
      rintro e w' ⟨rfl, rfl⟩
      go_wp2
      go_ret
      exact ⟨ret_bool HB.out.symm, (by repeat (first | exact Chg.refl _ _ | apply Chg.drew | apply Chg.drewN | refine Chg.alloc ?_ _))⟩
    · have HB := Lib.hid (rowB_no2 hc)
      have HC := Lib.hid (show r.c < 1 ∨ 4 < r.c by omega)
      clear hd hc h7 h8
      go_enter Tryz.func75, Tryz.ntmps75
      go_wp2_with fail
      refine (isDirection_yes _ _ HD.out).mono ?_
      rintro e w' ⟨rfl, rfl⟩
      go_wp2_with fail
      refine (isCarrier_no _ _ HC.out).mono ?_
      rintro e w' ⟨rfl, rfl⟩
      go_wp2
      go_ret
      exact ⟨ret_bool HB.out.symm, (by repeat (first | exact Chg.refl _ _ | apply Chg.drew | apply Chg.drewN | refine Chg.alloc ?_ _))⟩
  · have HB := Lib.hid (rowB_no1 (r := r) hd)
    have HD := Lib.hid (show r.d ≠ 1 ∧ r.d ≠ -1 from ⟨fun h => hd (.inl h), fun h => hd (.inr h)⟩)
    clear hd h7 h8
    go_enter Tryz.func75, Tryz.ntmps75
    go_wp2_with fail
    refine (isDirection_no _ _ HD.out).mono ?_
    rintro e w' ⟨rfl, rfl⟩
    go_wp2
    go_ret
    exact ⟨ret_bool HB.out.symm, (by repeat (first | exact Chg.refl _ _ | apply Chg.drew | apply Chg.drewN | refine Chg.alloc ?_ _))⟩
theorem laidB_1 {xs : List Int} (h : inB (sumF takenK xs) 1 8 = false) : laidB xs = false := by unfold laidB; rw [h]; rfl
theorem laidB_2 {xs : List Int} (h : inB (sumF takenK xs) 1 8 = true) : laidB xs = inB (sumF madeK xs) 1 8 := by unfold laidB; rw [h]; rfl
end Go.Proofs.YtnjfhpgmogopnaaGreat
