/- A copy of a machine: the reference's l07Own. No condition. -/
import Derived.Test.YtchfjglofmphfaaGro
import Derived.Test.YtchfjglofmphfaaRB7
import Derived.Test.YtchfjglofmphfaaRB6
import Derived.Test.YtchfjglofmphfaaRB8
import Derived.Test.YtchfjglofmphfaaRakD
import Derived.Deep.RegionLaw
import Derived.Deep.DeepCutAuto
set_option linter.unusedSimpArgs false
set_option linter.unusedVariables false
set_option maxRecDepth 100000
set_option maxHeartbeats 4000000
namespace Go.Proofs.Ytchfjglofmphfaa
open Go.ChangeShapes Go.WideShapes Go.ChangeAt Go.RowKit
theorem step_appRaw {P : Program} {w : World} {ops : Array Oper} {o : Oper} {a : Act} {K : Act → World → Prop} {Q : Exit → Act → World → Prop} {F : Prop} (hgd : o.guard = none) (s x : Operand) (t : TypeId)
    (ho : o.op = .call { callee := .builtin .append, args := #[s, x], argTypes := #[t, t] })
    (base : Nat) (e : TypeId) (i : TypeInfo) (z : Value) (m bytes : Nat) (ht : P.underlying t = some (.slice e)) (hi : P.info? e = some i) (hz : i.zero = some z)
    (hsize : i.size = m) (hby : i.bytes = bytes) (hzs : z.cells.size = m) (hsz : 0 < m)
    (v : Value) (n : Nat) (xs : List Value) (hs : a.eval s = v) (hown : w.ownsRow base e m v n xs)
    (S : Nat → Prop) (u : Value) (k : Nat) (ys : List Value) (hx : a.eval x = u) (hsrc : Raw w S m u k ys) (h1 : ∀ q ∈ ys, q.oneCell' = true)
    (h63 : n + k ≤ maxLen) (hbytes : (n + k) * bytes ≤ 140737488355328) (hbase : base ≤ w.heap.size)
    (h : ∀ v' w', w'.ownsRow base e m v' (n + k) (xs ++ ys) → Chg (fun b => v.ownBlock = some b) w w' → (∀ g, v'.ownBlock = some g → v.ownBlock = some g ∨ w.heap.size ≤ g) → K (a.put o.dst v') w') :
    if Region.wanted o (yielded ops a.tmps) = true then Oper.wp P o a w K Q else F := by
  obtain ⟨hl, A, c, rfl, hlc, hcm, hr, hnn⟩ := hsrc
  cases A with
  | none =>
    have hk : k = 0 := by
      rcases Nat.eq_zero_or_pos k with h0 | h0
      · exact h0
      · obtain ⟨b, oo, h1, _⟩ := hr h0
        cases h1
    subst hk
    obtain rfl := hnn rfl
    have hy : ys = [] := List.eq_nil_of_length_eq_zero (by simpa using hl)
    subst hy
    have hw : Region.wanted o (yielded ops a.tmps) = true := by simp [Region.wanted, hgd]
    rw [if_pos hw]
    have hrun := run_append_owned_none (P := P) (w := w) base t o.type e i m ht hi v n _ hown
    have hK := h v w (by simpa using hown) (Chg.refl _ _) (fun b hb => .inl hb)
    unfold Oper.wp
    simp [execOp, ho, resolve, invoke, builtin, hs, hx, hrun, Result.andThen]
    exact hK
  | some ad =>
    have hnews : ∀ j q, ys[j]? = some q → w.cell? (ad.add j) = some q := by
      intro j q hq
      obtain ⟨hj, he⟩ := List.getElem?_eq_some_iff.1 hq
      have hp : 0 < k := by
        rcases Nat.eq_zero_or_pos k with h0 | h0
        · rw [h0, Nat.zero_mul] at hl; omega
        · exact h0
      obtain ⟨b, oo, h1, _, _, hc⟩ := hr hp
      injection h1 with h1
      subst h1
      have := (hc j hj).1
      rw [he] at this
      rw [← this]
      unfold Addr.add
      by_cases h0 : j = 0 <;> simp [h0]
    refine step_append_own2 (P := P) hgd s x t ho base e i z m bytes ht hi hz hsize hby hzs hsz v n xs hs hown ad k c ys hx hl hnews h1 h63 hbytes hbase ?_
    intro v' w' h2 h3 h4
    exact h v' w' h2 (Chg.of_grown h3) h4
/-- few enough for a copy -/
structure Few2 (p : MacM) : Prop where
  cs : p.cs.length ≤ 1000
  ls : p.ls.length ≤ 1000
  ps : ∀ i (hi : i < p.ls.length), p.ls[i].ps.length ≤ 1000
  dr : p.dr.length ≤ 1000
theorem infoIS : (Try.prog.info? 25).map (fun i => (i.zero, i.size, i.bytes)) = some (some (.slice none 0 0), 1, 24) := by kernel_rfl
theorem infoCarB : (Try.prog.info? 161).map (fun i => (i.zero, i.size, i.bytes)) = some (some (.agg #[.bool false, .int .i64 0]), 2, 16) := by kernel_rfl
theorem infoInfs : (Try.prog.info? 164).map (fun i => (i.zero, i.size, i.bytes)) = some (some (.agg #[.int .i64 0, .int .i64 0, .int .i64 0, .int .i64 0, .int .i64 0, .slice none 0 0]), 6, 64) := by kernel_rfl
theorem cells_oneCars (x : CarM) : ∀ u ∈ x.cells, u.oneCell' = true := by
  intro u hu
  unfold CarM.cells at hu
  simp only [List.mem_cons, List.not_mem_nil, or_false] at hu
  rcases hu with rfl | rfl <;> rfl
theorem size1 (w : World) (a : Obj) : (w.alloc a).heap.size = w.heap.size + 1 := by simp
theorem size2 (w : World) (a b : Obj) : ((w.alloc a).alloc b).heap.size = w.heap.size + 2 := by simp
theorem ne_own {a b n c : Nat} (h : a ≠ b) : ¬ (Value.slice (some ⟨a, 0, none⟩) n c).ownBlock = some b := fun e => h (by simpa [Value.ownBlock] using e)
theorem ownsRow_new {w : World} {base g : Nat} {e : TypeId} {m : Nat} (hg : g = w.heap.size) (hb : base ≤ g) : (w.alloc (.cells #[] e)).ownsRow base e m (.slice (some ⟨g, 0, none⟩) 0 0) 0 [] := by
  subst hg
  exact World.ownsRow_made w #[] 0 hb (by unfold Go.maxLen; omega) (by simp)
theorem ownsRow_drew {w : World} {base n m : Nat} {e : TypeId} {v : Value} {xs : List Value} (h : w.ownsRow base e m v n xs) : w.drew.ownsRow base e m v n xs := h
def z7 : Nat → Value
  | 0 => .int .i64 0
  | 1 => .int .i64 0
  | _ => .slice none 0 0
/-- a machine's box without a machine -/
def Box7 (w : World) (B : Nat) : Prop := ∀ t, t < 7 → CellF w ⟨B, t, none⟩ (z7 t)
theorem Box7.up {w w' : World} {B : Nat} (g : Up w w') (h : Box7 w B) : Box7 w' B := fun t ht => CellF.up g (h t ht)
theorem Box7.drew {w : World} {B : Nat} (h : Box7 w B) : Box7 w.drew B := h
theorem Box7.alloc {w : World} {B : Nat} (h : Box7 w B) (o : Obj) : Box7 (w.alloc o) B := Box7.up ((Chg.refl _ _).alloc o) h
theorem Box7.keep {S : Nat → Prop} {w w' : World} {B : Nat} (g : Chg S w w') (h : Box7 w B) (hn : ¬ S B) : Box7 w' B := fun t ht => CellF.keep g (h t ht) hn
theorem Box7.new (w : World) {B : Nat} (h : B = w.heap.size) : Box7 (w.alloc (.cells #[.int .i64 0, .int .i64 0, .slice none 0 0, .slice none 0 0, .slice none 0 0, .slice none 0 0, .slice none 0 0] 35)) B := fun t ht => by
  refine cellF_at h ?_
  match t, ht with
  | 0, _ => rfl
  | 1, _ => rfl
  | 2, _ => rfl
  | 3, _ => rfl
  | 4, _ => rfl
  | 5, _ => rfl
  | 6, _ => rfl
theorem Box7.open {w : World} {B : Nat} (h : Box7 w B) : (w.cell? ⟨B, 0, none⟩ = some (.int .i64 0) ∧ w.frozen? ⟨B, 0, none⟩ = false) ∧ (w.cell? ⟨B, 1, none⟩ = some (.int .i64 0) ∧ w.frozen? ⟨B, 1, none⟩ = false) ∧ (w.cell? ⟨B, 2, none⟩ = some (.slice none 0 0) ∧ w.frozen? ⟨B, 2, none⟩ = false) ∧ (w.cell? ⟨B, 3, none⟩ = some (.slice none 0 0) ∧ w.frozen? ⟨B, 3, none⟩ = false) ∧ (w.cell? ⟨B, 4, none⟩ = some (.slice none 0 0) ∧ w.frozen? ⟨B, 4, none⟩ = false) ∧ (w.cell? ⟨B, 5, none⟩ = some (.slice none 0 0) ∧ w.frozen? ⟨B, 5, none⟩ = false) ∧ (w.cell? ⟨B, 6, none⟩ = some (.slice none 0 0) ∧ w.frozen? ⟨B, 6, none⟩ = false) :=
  ⟨h 0 (by omega), h 1 (by omega), h 2 (by omega), h 3 (by omega), h 4 (by omega), h 5 (by omega), h 6 (by omega)⟩
/-- what a copy holds ahead of its loops -/
structure Head7 (w0 w : World) (g : Nat) (wd rk : Int) : Prop where
  lo : w0.heap.size < g
  lt : g < w.heap.size
  c0 : w.cell? ⟨g, 0, none⟩ = some (.int .i64 wd)
  c1 : w.cell? ⟨g, 1, none⟩ = some (.int .i64 rk) ∧ w.frozen? ⟨g, 1, none⟩ = false
  c2 : w.cell? ⟨g, 2, none⟩ = some (.slice none 0 0) ∧ w.frozen? ⟨g, 2, none⟩ = false
  c3 : w.cell? ⟨g, 3, none⟩ = some (.slice none 0 0) ∧ w.frozen? ⟨g, 3, none⟩ = false
  c4 : ∃ E n d, w.cell? ⟨g, 4, none⟩ = some (.slice E n d)
  c5 : w.cell? ⟨g, 5, none⟩ = some (.slice none 0 0) ∧ w.frozen? ⟨g, 5, none⟩ = false
  c6 : ∃ E n d, w.cell? ⟨g, 6, none⟩ = some (.slice E n d)
theorem Head7.up {w0 w w' : World} {g : Nat} {wd rk : Int} (h : Head7 w0 w g wd rk) (u : Up w w') : Head7 w0 w' g wd rk :=
  ⟨h.lo, Nat.lt_of_lt_of_le h.lt u.size, u.cell h.c0 id, CellF.up u h.c1, CellF.up u h.c2, CellF.up u h.c3, let ⟨E, n, d, e⟩ := h.c4; ⟨E, n, d, u.cell e id⟩, CellF.up u h.c5, let ⟨E, n, d, e⟩ := h.c6; ⟨E, n, d, u.cell e id⟩⟩
theorem Head7.drew {w0 w : World} {g : Nat} {wd rk : Int} (h : Head7 w0 w g wd rk) : Head7 w0 w.drew g wd rk := h.up ((Chg.refl _ _).drew)
theorem Head7.new {w0 w : World} {g : Nat} {wd rk : Int} {E F : Option Addr} {n d m f : Nat} (hg : g = w.heap.size) (h : w0.heap.size < g) : Head7 w0 (w.alloc (.cells #[.int .i64 wd, .int .i64 rk, .slice none 0 0, .slice none 0 0, .slice E n d, .slice none 0 0, .slice F m f] 35)) g wd rk := by
  subst hg
  exact ⟨h, by simp, cell_new _ _ _ _, ⟨cell_new _ _ _ _, frozen_new _ _ _ _⟩, ⟨cell_new _ _ _ _, frozen_new _ _ _ _⟩, ⟨cell_new _ _ _ _, frozen_new _ _ _ _⟩, ⟨_, _, _, cell_new _ _ _ _⟩, ⟨cell_new _ _ _ _, frozen_new _ _ _ _⟩, ⟨_, _, _, cell_new _ _ _ _⟩⟩
theorem Head7.stored {w0 w : World} {g : Nat} {wd rk : Int} {E F : Option Addr} {n d m f : Nat} (hb : Box7 w g) (h : w0.heap.size < g) : Head7 w0 (((((((w.setCell ⟨g, 0, none⟩ (.int .i64 wd)).setCell ⟨g, 1, none⟩ (.int .i64 rk)).setCell ⟨g, 2, none⟩ (.slice none 0 0)).setCell ⟨g, 3, none⟩ (.slice none 0 0)).setCell ⟨g, 4, none⟩ (.slice E n d)).setCell ⟨g, 5, none⟩ (.slice none 0 0)).setCell ⟨g, 6, none⟩ (.slice F m f)) g wd rk := by
  have ne : ∀ s t : Nat, s ≠ t → (⟨g, s, none⟩ : Addr) ≠ ⟨g, t, none⟩ := fun s t h e => h (by injection e)
  have h0 := CellF.set (u := .int .i64 wd) (hb 0 (by omega))
  have k : ∀ t, t < 7 → t ≠ 0 → CellF (w.setCell ⟨g, 0, none⟩ (.int .i64 wd)) ⟨g, t, none⟩ (z7 t) := fun t ht hn => CellF.set_ne (hb t ht) (ne _ _ hn)
  have h1 := CellF.set (u := .int .i64 rk) (k 1 (by omega) (by omega))
  have k2 := CellF.set_ne (x := .int .i64 rk) (k 2 (by omega) (by omega)) (ne 2 1 (by omega))
  have k3 := CellF.set_ne (x := .int .i64 rk) (k 3 (by omega) (by omega)) (ne 3 1 (by omega))
  have k4 := CellF.set_ne (x := .int .i64 rk) (k 4 (by omega) (by omega)) (ne 4 1 (by omega))
  have k5 := CellF.set_ne (x := .int .i64 rk) (k 5 (by omega) (by omega)) (ne 5 1 (by omega))
  have k6 := CellF.set_ne (x := .int .i64 rk) (k 6 (by omega) (by omega)) (ne 6 1 (by omega))
  have g0 := CellF.set_ne (x := .int .i64 rk) h0 (ne 0 1 (by omega))
  have hl := World.block_lt_of_cell? _ _ (hb 0 (by omega)).1
  refine ⟨h, by simpa [World.setCell] using hl, ?_, ?_, ?_, ?_, ⟨E, n, d, ?_⟩, ?_, ⟨F, m, f, ?_⟩⟩
  · exact (CellF.set_ne (CellF.set_ne (CellF.set_ne (CellF.set_ne (CellF.set_ne g0 (ne _ _ (by omega))) (ne _ _ (by omega))) (ne _ _ (by omega))) (ne _ _ (by omega))) (ne _ _ (by omega))).1
  · exact CellF.set_ne (CellF.set_ne (CellF.set_ne (CellF.set_ne (CellF.set_ne h1 (ne _ _ (by omega))) (ne _ _ (by omega))) (ne _ _ (by omega))) (ne _ _ (by omega))) (ne _ _ (by omega))
  · exact CellF.set_ne (CellF.set_ne (CellF.set_ne (CellF.set_ne (CellF.set k2) (ne _ _ (by omega))) (ne _ _ (by omega))) (ne _ _ (by omega))) (ne _ _ (by omega))
  · exact CellF.set_ne (CellF.set_ne (CellF.set_ne (CellF.set (CellF.set_ne k3 (ne _ _ (by omega)))) (ne _ _ (by omega))) (ne _ _ (by omega))) (ne _ _ (by omega))
  · exact (CellF.set_ne (CellF.set_ne (CellF.set (CellF.set_ne (CellF.set_ne k4 (ne _ _ (by omega))) (ne _ _ (by omega)))) (ne _ _ (by omega))) (ne _ _ (by omega))).1
  · exact CellF.set_ne (CellF.set (CellF.set_ne (CellF.set_ne (CellF.set_ne k5 (ne _ _ (by omega))) (ne _ _ (by omega))) (ne _ _ (by omega)))) (ne _ _ (by omega))
  · exact (CellF.set (CellF.set_ne (CellF.set_ne (CellF.set_ne (CellF.set_ne k6 (ne _ _ (by omega))) (ne _ _ (by omega))) (ne _ _ (by omega))) (ne _ _ (by omega)))).1
/-- the other cells of a copy's box -/
structure Tail7 (w : World) (g : Nat) (wd rk : Int) (v5 : Value) : Prop where
  c0 : w.cell? ⟨g, 0, none⟩ = some (.int .i64 wd)
  c1 : w.cell? ⟨g, 1, none⟩ = some (.int .i64 rk)
  c4 : ∃ E n d, w.cell? ⟨g, 4, none⟩ = some (.slice E n d)
  c5 : CellF w ⟨g, 5, none⟩ v5
  c6 : ∃ E n d, w.cell? ⟨g, 6, none⟩ = some (.slice E n d)
theorem Tail7.keep {S : Nat → Prop} {w w' : World} {g : Nat} {wd rk : Int} {v5 : Value} (h : Tail7 w g wd rk v5) (k : Chg S w w') (hn : ¬ S g) : Tail7 w' g wd rk v5 :=
  ⟨k.cell h.c0 hn, k.cell h.c1 hn, let ⟨E, n, d, e⟩ := h.c4; ⟨E, n, d, k.cell e hn⟩, CellF.keep k h.c5 hn, let ⟨E, n, d, e⟩ := h.c6; ⟨E, n, d, k.cell e hn⟩⟩
theorem cell_ne {w : World} {g s t : Nat} {u x : Value} (h : w.cell? ⟨g, s, none⟩ = some u) (hn : s ≠ t) : (w.setCell ⟨g, t, none⟩ x).cell? ⟨g, s, none⟩ = some u := (World.cell?_setCell_other _ _ _ _ (fun e => hn (by injection e with _ e2; exact e2.symm))).trans h
theorem Tail7.set {w : World} {g t : Nat} {wd rk : Int} {v5 x : Value} (h : Tail7 w g wd rk v5) (ht : t = 2 ∨ t = 3) : Tail7 (w.setCell ⟨g, t, none⟩ x) g wd rk v5 :=
  ⟨cell_ne h.c0 (by omega), cell_ne h.c1 (by omega), let ⟨E, n, d, e⟩ := h.c4; ⟨E, n, d, cell_ne e (by omega)⟩, ⟨cell_ne h.c5.1 (by omega), by simpa using h.c5.2⟩, let ⟨E, n, d, e⟩ := h.c6; ⟨E, n, d, cell_ne e (by omega)⟩⟩
abbrev GrowS (w : World) (B : Nat) (v : Value) (xs : List (List Int)) (j : Nat) (Q : Nat → Prop) : Prop := Grow 25 1 (IntsE Q) w B v xs j
/-- the two beds under copy -/
structure LoopSt (wc : World) (g : Nat) (p : MacM) (w : World) (vF vB : Value) (Q : Nat → Prop) (i j : Nat) : Prop where
  cF : CellF w ⟨g, 2, none⟩ vF
  cB : CellF w ⟨g, 3, none⟩ vB
  tl : Tail7 w g p.wd p.rk (.slice none 0 0)
  gF : GrowS w wc.heap.size vF p.fr i Q
  gB : GrowS w wc.heap.size vB p.bk j Q
  q : ∀ b, Q b → wc.heap.size ≤ b ∧ b < w.heap.size ∧ vF.ownBlock ≠ some b ∧ vB.ownBlock ≠ some b
  ne : ∀ b, vF.ownBlock = some b → vB.ownBlock ≠ some b
  ch : Chg (fun b => b = g) wc w
theorem LoopSt.up {wc w w' : World} {g : Nat} {p : MacM} {vF vB : Value} {Q : Nat → Prop} {i j : Nat} (h : LoopSt wc g p w vF vB Q i j) (u : Up w w') : LoopSt wc g p w' vF vB Q i j :=
  ⟨CellF.up u h.cF, CellF.up u h.cB, h.tl.keep u id, h.gF.up u (fun _ _ k => IntsE.up k u), h.gB.up u (fun _ _ k => IntsE.up k u), fun b hb => ⟨(h.q b hb).1, Nat.lt_of_lt_of_le (h.q b hb).2.1 u.size, (h.q b hb).2.2⟩, h.ne, Chg.trans h.ch (Chg.of_up u)⟩
theorem LoopSt.start {wc w0 : World} {g : Nat} {p : MacM} (h : Head7 w0 wc g p.wd p.rk) : LoopSt wc g p wc (.slice none 0 0) (.slice none 0 0) (fun _ => False) 0 0 :=
  ⟨h.c2, h.c3, ⟨h.c0, h.c1.1, h.c4, h.c5, h.c6⟩, Grow.nil _ _ _, Grow.nil _ _ _, fun _ h => h.elim, fun b h => by simp [Value.ownBlock] at h, Chg.refl _ _⟩
theorem LoopSt.stepF {wc wr w6 w w' : World} {g : Nat} {p : MacM} {vF vB v' : Value} {Q : Nat → Prop} {i j : Nat} (h : LoopSt wc g p wr vF vB Q i j) (hg : g < wc.heap.size) (hu : Up wr w6) (hw : Up w6 w)
    (k1 : GrowS w' wc.heap.size v' p.fr (i + 1) (fun b => Q b ∨ New wr.heap.size w6.heap.size b)) (k2 : Chg (fun b => vF.ownBlock = some b) w w') (k3 : ∀ b, v'.ownBlock = some b → vF.ownBlock = some b ∨ w.heap.size ≤ b) :
    LoopSt wc g p (w'.setCell ⟨g, 2, none⟩ v') v' vB (fun b => Q b ∨ New wr.heap.size w6.heap.size b) (i + 1) j := by
  have hs := h.ch.size
  have h1 := hu.size
  have h2 := hw.size
  have h3 := k2.size
  have oF : ∀ b, vF.ownBlock = some b → wc.heap.size ≤ b ∧ b < wr.heap.size := fun b hb => h.gF.lt hb
  have oB : ∀ b, vB.ownBlock = some b → wc.heap.size ≤ b ∧ b < wr.heap.size := fun b hb => h.gB.lt hb
  have nF : ¬ (fun b => vF.ownBlock = some b) g := fun hb => by have := (oF g hb).1; omega
  have UB := Chg.trans hu hw
  have CG : Chg (fun b => b = g) w' (w'.setCell ⟨g, 2, none⟩ v') := Chg.setCell (Chg.refl (fun b => b = g) w') (p := ⟨g, 2, none⟩) (.inl (show g = g from rfl)) _
  have o' : ∀ b, v'.ownBlock = some b → wc.heap.size ≤ b := fun b hb => (k1.lt hb).1
  refine ⟨CellF.set (CellF.keep k2 (CellF.up UB h.cF) nF), CellF.set_ne (CellF.keep k2 (CellF.up UB h.cB) nF) (fun e => by injection e with _ e2; omega), ((h.tl.keep UB id).keep k2 nF).set (.inl rfl), k1.kept CG (fun b hb e => by have := o' b hb; have e : b = g := e; omega) (fun _ _ k => IntsE.keep k CG (fun b _ hq e => by have e : b = g := e; rcases hq with hq | hq; exact absurd (h.q b hq).1 (by omega); have := hq.1; omega)), ?_, fun b hb => ?_, fun b hb e => ?_, ?_⟩
  · exact (((h.gB.up UB (fun _ _ k => IntsE.up k UB)).kept k2 (fun b hb e => h.ne b e hb) (fun _ _ k => IntsE.keep k k2 (fun b _ hq => (h.q b hq).2.2.1))).kept CG (fun b hb e => by have := oB b hb; have e : b = g := e; omega) (fun _ _ k => (IntsE.keep k CG (fun b _ hq e => by have := (h.q b hq).1; have e : b = g := e; omega)).mono (fun b _ hq => .inl hq)))
  · rcases hb with hb | hb
    · obtain ⟨a1, a2, a3, a4⟩ := h.q b hb
      exact ⟨a1, by have := CG.size; omega, fun e => (k3 b e).elim a3 (fun h => by omega), a4⟩
    · exact ⟨by have := hb.1; omega, by have := CG.size; have := hb.2; omega, fun e => (k3 b e).elim (fun h => by have := (oF b h).2; have := hb.1; omega) (fun h => by have := hb.2; omega), fun e => by have := (oB b e).2; have := hb.1; omega⟩
  · rcases k3 b hb with k | k
    · exact h.ne b k e
    · have := (oB b e).2; omega
  · exact Chg.trans (Chg.newS (Chg.trans h.ch (Chg.of_up UB)) k2 (fun i hi e => by have := (oF i e).1; omega)) CG
theorem LoopSt.stepB {wc wr w6 w w' : World} {g : Nat} {p : MacM} {vF vB v' : Value} {Q : Nat → Prop} {i j : Nat} (h : LoopSt wc g p wr vF vB Q i j) (hg : g < wc.heap.size) (hu : Up wr w6) (hw : Up w6 w)
    (k1 : GrowS w' wc.heap.size v' p.bk (j + 1) (fun b => Q b ∨ New wr.heap.size w6.heap.size b)) (k2 : Chg (fun b => vB.ownBlock = some b) w w') (k3 : ∀ b, v'.ownBlock = some b → vB.ownBlock = some b ∨ w.heap.size ≤ b) :
    LoopSt wc g p (w'.setCell ⟨g, 3, none⟩ v') vF v' (fun b => Q b ∨ New wr.heap.size w6.heap.size b) i (j + 1) := by
  have hs := h.ch.size
  have h1 := hu.size
  have h2 := hw.size
  have h3 := k2.size
  have oF : ∀ b, vF.ownBlock = some b → wc.heap.size ≤ b ∧ b < wr.heap.size := fun b hb => h.gF.lt hb
  have oB : ∀ b, vB.ownBlock = some b → wc.heap.size ≤ b ∧ b < wr.heap.size := fun b hb => h.gB.lt hb
  have nB : ¬ (fun b => vB.ownBlock = some b) g := fun hb => by have := (oB g hb).1; omega
  have UB := Chg.trans hu hw
  have CG : Chg (fun b => b = g) w' (w'.setCell ⟨g, 3, none⟩ v') := Chg.setCell (Chg.refl (fun b => b = g) w') (p := ⟨g, 3, none⟩) (.inl (show g = g from rfl)) _
  have o' : ∀ b, v'.ownBlock = some b → wc.heap.size ≤ b := fun b hb => (k1.lt hb).1
  refine ⟨CellF.set_ne (CellF.keep k2 (CellF.up UB h.cF) nB) (fun e => by injection e with _ e2; omega), CellF.set (CellF.keep k2 (CellF.up UB h.cB) nB), ((h.tl.keep UB id).keep k2 nB).set (.inr rfl), ?_, k1.kept CG (fun b hb e => by have := o' b hb; have e : b = g := e; omega) (fun _ _ k => IntsE.keep k CG (fun b _ hq e => by have e : b = g := e; rcases hq with hq | hq; exact absurd (h.q b hq).1 (by omega); have := hq.1; omega)), fun b hb => ?_, fun b hb e => ?_, ?_⟩
  · exact (((h.gF.up UB (fun _ _ k => IntsE.up k UB)).kept k2 (fun b hb e => h.ne b hb e) (fun _ _ k => IntsE.keep k k2 (fun b _ hq => (h.q b hq).2.2.2))).kept CG (fun b hb e => by have := oF b hb; have e : b = g := e; omega) (fun _ _ k => (IntsE.keep k CG (fun b _ hq e => by have := (h.q b hq).1; have e : b = g := e; omega)).mono (fun b _ hq => .inl hq)))
  · rcases hb with hb | hb
    · obtain ⟨a1, a2, a3, a4⟩ := h.q b hb
      exact ⟨a1, by have := CG.size; omega, a3, fun e => (k3 b e).elim a4 (fun h => by omega)⟩
    · exact ⟨by have := hb.1; omega, by have := CG.size; have := hb.2; omega, fun e => by have := (oF b e).2; have := hb.1; omega, fun e => (k3 b e).elim (fun h => by have := (oB b h).2; have := hb.1; omega) (fun h => by have := hb.2; omega)⟩
  · rcases k3 b e with k | k
    · exact h.ne b hb k
    · have := (oF b hb).2; omega
  · exact Chg.trans (Chg.newS (Chg.trans h.ch (Chg.of_up UB)) k2 (fun i hi e => by have := (oB i e).1; omega)) CG
structure End7 (w : World) (g : Nat) (wd rk : Int) (vF vB vL : Value) (A4 A6 : Option Addr) (n4 n6 d4 d6 : Nat) : Prop where
  c0 : w.cell? ⟨g, 0, none⟩ = some (.int .i64 wd)
  c1 : w.cell? ⟨g, 1, none⟩ = some (.int .i64 rk)
  c2 : w.cell? ⟨g, 2, none⟩ = some vF
  c3 : w.cell? ⟨g, 3, none⟩ = some vB
  c4 : w.cell? ⟨g, 4, none⟩ = some (.slice A4 n4 d4)
  c5 : CellF w ⟨g, 5, none⟩ vL
  c6 : w.cell? ⟨g, 6, none⟩ = some (.slice A6 n6 d6)
theorem End7.keep {S : Nat → Prop} {w w' : World} {g : Nat} {wd rk : Int} {vF vB vL : Value} {A4 A6 : Option Addr} {n4 n6 d4 d6 : Nat} (h : End7 w g wd rk vF vB vL A4 A6 n4 n6 d4 d6) (k : Chg S w w') (hn : ¬ S g) : End7 w' g wd rk vF vB vL A4 A6 n4 n6 d4 d6 :=
  ⟨k.cell h.c0 hn, k.cell h.c1 hn, k.cell h.c2 hn, k.cell h.c3 hn, k.cell h.c4 hn, CellF.keep k h.c5 hn, k.cell h.c6 hn⟩
theorem End7.set {w : World} {g : Nat} {wd rk : Int} {vF vB vL x : Value} {A4 A6 : Option Addr} {n4 n6 d4 d6 : Nat} (h : End7 w g wd rk vF vB vL A4 A6 n4 n6 d4 d6) : End7 (w.setCell ⟨g, 5, none⟩ x) g wd rk vF vB x A4 A6 n4 n6 d4 d6 :=
  ⟨cell_ne h.c0 (by omega), cell_ne h.c1 (by omega), cell_ne h.c2 (by omega), cell_ne h.c3 (by omega), cell_ne h.c4 (by omega), CellF.set h.c5, cell_ne h.c6 (by omega)⟩
theorem bed_out {wk w5 wr W w : World} {g : Nat} {v : Value} {xs : List (List Int)} {Q : Nat → Prop} (h : Nst 1 (IntsE Q) w5 (New wk.heap.size w5.heap.size) v xs) (hq : ∀ b, Q b → wk.heap.size ≤ b ∧ b < w5.heap.size) (hc : Chg (fun b => b = g) w5 wr) (hW : Chg (fun b => b = w.heap.size) wr W) (hg : w.heap.size < g ∧ g < wk.heap.size) :
    IntSSV W (New w.heap.size W.heap.size) (New w.heap.size W.heap.size) (New w.heap.size W.heap.size) v xs := by
  obtain ⟨g1, g2⟩ := hg
  have s1 := hc.size
  have s2 := hW.size
  have h1 : Nst 1 (IntsE Q) wr (New wk.heap.size w5.heap.size) v xs := h.keep (fun _ _ k => IntsE.keep k hc (fun b _ hb e => by have := (hq b hb).1; have e : b = g := e; omega)) hc (fun b _ hb e => by have := hb.1; have e : b = g := e; omega)
  have h2 : Nst 1 (IntsE Q) W (New wk.heap.size w5.heap.size) v xs := h1.keep (fun _ _ k => IntsE.keep k hW (fun b _ hb e => by have := (hq b hb).1; have e : b = w.heap.size := e; omega)) hW (fun b _ hb e => by have := hb.1; have e : b = w.heap.size := e; omega)
  exact Nst.mono h2 (fun _ _ k => IntsE.mono k (fun b _ hb => ⟨by have := (hq b hb).1; omega, by have := (hq b hb).2; omega⟩)) (fun b _ hb => ⟨by have := hb.1; omega, by have := hb.2; omega⟩)
theorem up_of {S : Nat → Prop} {a b c : World} (_ : Chg S b c) (u : Up a b) : Up a b := u
theorem step_grow1 {w wr w6 : World} {ops : Array Oper} {o : Oper} {a : Act} {K : Act → World → Prop} {R : Exit → Act → World → Prop} {F : Prop} (hgd : o.guard = none) (s x : Operand)
    (ho : o.op = .call { callee := .builtin .append, args := #[s, x], argTypes := #[22, 22] }) {v : Value} (hs : a.eval s = v) {B : Nat} {xs : List (List Int)} {j : Nat} (hj : j < xs.length) {Q : Nat → Prop}
    (hg : GrowS wr B v xs j Q) (hQ : ∀ b, Q b → b < wr.heap.size ∧ v.ownBlock ≠ some b) (hu : Up wr w6) {A : Option Addr} {c : Nat} (hk : Ints w6 (New wr.heap.size w6.heap.size) (.slice A xs[j].length c) xs[j]) (hb : xs[j].length ≤ c ∧ c ≤ 9223372036854775807)
    {gx : Nat} (hx : a.eval x = .slice (some ⟨gx, 0, none⟩) 1 1) (hw : Up w6 w) (hc : w.cell? ⟨gx, 0, none⟩ = some (.slice A xs[j].length c)) (h63 : j < 1000000) (hB : B ≤ wr.heap.size)
    (h : ∀ v' w', GrowS w' B v' xs (j + 1) (fun b => Q b ∨ New wr.heap.size w6.heap.size b) → Chg (fun b => v.ownBlock = some b) w w' → (∀ b, v'.ownBlock = some b → v.ownBlock = some b ∨ w.heap.size ≤ b) → K (a.put o.dst v') w') :
    if Region.wanted o (yielded ops a.tmps) = true then Oper.wp Try.prog o a w K R else F := by
  obtain ⟨ii, hii, hz0, hz1, hz2⟩ := info_parts infoIS
  have UB := Chg.trans hu hw
  refine step_appGrow (E := IntsE Q) (E' := IntsE (fun b => Q b ∨ New wr.heap.size w6.heap.size b)) (v := v) hgd s x 22 ho ii _ 24 Try.underlying22 hii hz0 hz1 hz2 rfl (by decide) hs (hg.up UB (fun _ _ k => IntsE.up k UB)) hj gx [.slice A xs[j].length c] hx rfl ?_ ?_ ?_ (by unfold Go.maxLen; omega) (by omega) (Nat.le_trans hB UB.size) (fun v' w' h1 h2 h3 _ => h v' w' h1 h2 h3)
  · intro k u hk2
    cases k with
    | zero => simp only [List.getElem?_cons_zero, Option.some.injEq] at hk2; subst hk2; exact hc
    | succ k => simp at hk2
  · intro u hu2; simp at hu2; subst hu2; rfl
  · intro w' hW
    refine ⟨fun ys y he => (IntsE.keep he hW (fun b _ hq => (hQ b hq).2)).mono (fun b _ h => .inl h), A, c, rfl, ((hk.up hw).keep hW (fun b _ hn e => ?_)).mono (fun b _ h => .inr h), hb.1, hb.2⟩
    have := (hg.lt e).2
    have := hn.1
    omega
theorem l07Own_any (w : World) (M H L : Nat → Prop) (bm : Nat) (p : MacM) (hp : FewM p) (hp2 : Few2 p) (i0 : I64 p.wd) (i1 : I64 p.rk) (A0 A1 A2 A3 A4 : Option Addr) (c0 c1 c2 c3 c4 : Nat) (q0 : w.cell? ⟨bm, 0, none⟩ = some (.int .i64 p.wd)) (q1 : w.cell? ⟨bm, 1, none⟩ = some (.int .i64 p.rk)) (q2 : w.cell? ⟨bm, 2, none⟩ = some (.slice A0 p.fr.length c0)) (q3 : w.cell? ⟨bm, 3, none⟩ = some (.slice A1 p.bk.length c1)) (q4 : w.cell? ⟨bm, 4, none⟩ = some (.slice A2 p.cs.length c2)) (q5 : w.cell? ⟨bm, 5, none⟩ = some (.slice A3 p.ls.length c3)) (q6 : w.cell? ⟨bm, 6, none⟩ = some (.slice A4 p.dr.length c4)) (h0 : IntSSV w M H L (.slice A0 p.fr.length c0) p.fr) (h1 : IntSSV w M H L (.slice A1 p.bk.length c1) p.bk) (h2 : CarsL w M H L (.slice A2 p.cs.length c2) p.cs) (h3 : InfoSV w M H L (.slice A3 p.ls.length c3) p.ls) (h4 : IntsL w M H L (.slice A4 p.dr.length c4) p.dr) :
    Calls Try.prog 48 #[.pointer (some ⟨bm, 0, none⟩)] w fun e w' => ∃ B0 B1 d0 d1 F2 F3 F4 m2 m3 m4 f2 f3 f4, e = .returned (.agg #[.int .i64 p.wd, .int .i64 p.rk, .slice B0 p.fr.length d0, .slice B1 p.bk.length d1, .slice F2 m2 f2, .slice F3 m3 f3, .slice F4 m4 f4]) ∧ IntSSV w' (New w.heap.size w'.heap.size) (New w.heap.size w'.heap.size) (New w.heap.size w'.heap.size) (.slice B0 p.fr.length d0) p.fr ∧ IntSSV w' (New w.heap.size w'.heap.size) (New w.heap.size w'.heap.size) (New w.heap.size w'.heap.size) (.slice B1 p.bk.length d1) p.bk ∧ Up w w' := by
  have H0 := Lib.hid h0
  have H1 := Lib.hid h1
  have H2 := Lib.hid h2
  have H3 := Lib.hid h3
  have H4 := Lib.hid h4
  have Q0 := Lib.hid q0
  have Q1 := Lib.hid q1
  have Q2 := Lib.hid q2
  have Q3 := Lib.hid q3
  have Q4 := Lib.hid q4
  have Q5 := Lib.hid q5
  have Q6 := Lib.hid q6
  have HP := Lib.hid hp
  have HP2 := Lib.hid hp2
  have I0 := Lib.hid i0
  have I1 := Lib.hid i1
  have hbm := World.block_lt_of_cell? w _ q0
  obtain ⟨ic, hci, hcz0, hcz1, hcz2⟩ := info_parts infoCarB
  obtain ⟨ii, hii, hiz0, hiz1, hiz2⟩ := info_parts infoIS
  obtain ⟨il, hli, hlz0, hlz1, hlz2⟩ := info_parts infoInfs
  have HCI := Lib.hid (And.intro hci (And.intro hcz0 (And.intro hcz1 hcz2)))
  have HII := Lib.hid (And.intro hii (And.intro hiz0 (And.intro hiz1 hiz2)))
  have HLI := Lib.hid (And.intro hli (And.intro hlz0 (And.intro hlz1 hlz2)))
  clear h0 h1 h2 h3 h4 q0 q1 q2 q3 q4 q5 q6 hp hp2 i0 i1 hci hcz0 hcz1 hcz2 hii hiz0 hiz1 hiz2 hli hlz0 hlz1 hlz2
  go_enter Try.func48, Try.ntmps48
  go_upto_region 1 with fail
  go_cut [3] (fun y wx => ∃ g : Nat, y = .pointer (some ⟨g, 0, none⟩) ∧ Hid (Head7 w wx g p.wd p.rk) ∧ Hid (Up (w.alloc (.cells #[.int .i64 0, .int .i64 0, .slice none 0 0, .slice none 0 0, .slice none 0 0, .slice none 0 0, .slice none 0 0] 35)) wx))
  case first =>
    have UG := Lib.hid (Chg.refl Nowhere (w.alloc (.cells #[.int .i64 0, .int .i64 0, .slice none 0 0, .slice none 0 0, .slice none 0 0, .slice none 0 0, .slice none 0 0] 35)))
    refine wp_region_noPanic ?_
    go_region_held3 (fun w' => w'.cell? ⟨bm, 0, none⟩ = some (.int .i64 p.wd) ∧ w'.cell? ⟨bm, 1, none⟩ = some (.int .i64 p.rk) ∧ w'.cell? ⟨bm, 4, none⟩ = some (.slice A2 p.cs.length c2) ∧ w'.cell? ⟨bm, 6, none⟩ = some (.slice A4 p.dr.length c4)) (exact ⟨Chg.cell (show Up w _ from Chg.trans ((Chg.refl Nowhere w).alloc (.cells #[.int .i64 0, .int .i64 0, .slice none 0 0, .slice none 0 0, .slice none 0 0, .slice none 0 0, .slice none 0 0] 35)) (show Up (w.alloc (.cells #[.int .i64 0, .int .i64 0, .slice none 0 0, .slice none 0 0, .slice none 0 0, .slice none 0 0, .slice none 0 0] 35)) _ from by repeat (first | (with_reducible exact UG.out) | (with_reducible apply Chg.drew) | (with_reducible refine Chg.alloc ?_ _) | ((with_reducible refine Chg.setCell ?_ (.inr ?_) _); rotate_left; (focus (first | (simp; done) | omega | (dsimp only; omega) | (dsimp only; simp; omega))))))) Q0.out id, Chg.cell (show Up w _ from Chg.trans ((Chg.refl Nowhere w).alloc (.cells #[.int .i64 0, .int .i64 0, .slice none 0 0, .slice none 0 0, .slice none 0 0, .slice none 0 0, .slice none 0 0] 35)) (show Up (w.alloc (.cells #[.int .i64 0, .int .i64 0, .slice none 0 0, .slice none 0 0, .slice none 0 0, .slice none 0 0, .slice none 0 0] 35)) _ from by repeat (first | (with_reducible exact UG.out) | (with_reducible apply Chg.drew) | (with_reducible refine Chg.alloc ?_ _) | ((with_reducible refine Chg.setCell ?_ (.inr ?_) _); rotate_left; (focus (first | (simp; done) | omega | (dsimp only; omega) | (dsimp only; simp; omega))))))) Q1.out id, Chg.cell (show Up w _ from Chg.trans ((Chg.refl Nowhere w).alloc (.cells #[.int .i64 0, .int .i64 0, .slice none 0 0, .slice none 0 0, .slice none 0 0, .slice none 0 0, .slice none 0 0] 35)) (show Up (w.alloc (.cells #[.int .i64 0, .int .i64 0, .slice none 0 0, .slice none 0 0, .slice none 0 0, .slice none 0 0, .slice none 0 0] 35)) _ from by repeat (first | (with_reducible exact UG.out) | (with_reducible apply Chg.drew) | (with_reducible refine Chg.alloc ?_ _) | ((with_reducible refine Chg.setCell ?_ (.inr ?_) _); rotate_left; (focus (first | (simp; done) | omega | (dsimp only; omega) | (dsimp only; simp; omega))))))) Q4.out id, Chg.cell (show Up w _ from Chg.trans ((Chg.refl Nowhere w).alloc (.cells #[.int .i64 0, .int .i64 0, .slice none 0 0, .slice none 0 0, .slice none 0 0, .slice none 0 0, .slice none 0 0] 35)) (show Up (w.alloc (.cells #[.int .i64 0, .int .i64 0, .slice none 0 0, .slice none 0 0, .slice none 0 0, .slice none 0 0, .slice none 0 0] 35)) _ from by repeat (first | (with_reducible exact UG.out) | (with_reducible apply Chg.drew) | (with_reducible refine Chg.alloc ?_ _) | ((with_reducible refine Chg.setCell ?_ (.inr ?_) _); rotate_left; (focus (first | (simp; done) | omega | (dsimp only; omega) | (dsimp only; simp; omega))))))) Q6.out id⟩) (first | (go_at_call 78; refine (l00Own_any _ _ _ p.dr ((show Ints w L _ p.dr from H4.out).up (Chg.trans ((Chg.refl Nowhere w).alloc (.cells #[.int .i64 0, .int .i64 0, .slice none 0 0, .slice none 0 0, .slice none 0 0, .slice none 0 0, .slice none 0 0] 35)) (Chg.trans UG.out (by repeat (first | exact Chg.refl _ _ | apply Chg.drew | apply Chg.drewN | refine Chg.alloc ?_ _))))) (by have := HP2.out.dr; omega)).mono ?_; rintro e w6 ⟨v6, rfl, k6, g6⟩; obtain ⟨A6, c6, rfl, hl6, hc6, -⟩ := k6.shape; have UG := Lib.hid (Chg.trans UG.out (Chg.trans (by repeat (first | exact Chg.refl _ _ | apply Chg.drew | apply Chg.drewN | refine Chg.alloc ?_ _)) g6)); have hz6 := UG.out.size; have hz7 := g6.size; (try simp at hz7); (first | (have HBX := Lib.hid (show Box7 w6 _ from Box7.up (Chg.trans (by repeat (first | exact Chg.refl _ _ | apply Chg.drew | apply Chg.drewN | refine Chg.alloc ?_ _)) g6) HBX.out)) | (first | (with_reducible have HBX := Lib.hid (show Box7 w6 (w3.heap.size) from Box7.up g6 (Box7.new w3 rfl))) | skip)); (try (obtain ⟨⟨x0, f0⟩, ⟨x1, f1⟩, ⟨x2, f2⟩, ⟨x3, f3⟩, ⟨x4, f4⟩, ⟨x5, f5⟩, ⟨x6, f6⟩⟩ := HBX.out.open)); clear k6 g6 hl6 hc6) | (refine step_appRaw rfl (.tmp 15) (.tmp 19) 32 rfl (w.heap.size + 1) 161 ic _ 2 16 Try.underlying32 HCI.out.1 HCI.out.2.1 HCI.out.2.2.1 HCI.out.2.2.2 rfl (by decide) (.slice (some ⟨w.heap.size + 1, 0, none⟩) 0 0) 0 [] ?_ ?_ L (.slice A2 p.cs.length c2) p.cs.length (p.cs.flatMap CarM.cells) ?_ ?_ ?_ ?_ ?_ ?_ ?_; (focus (first | (with_reducible rfl) | (simp [Act.eval, Act.put]; done))); (focus ((repeat (first | (with_reducible apply ownsRow_drew) | ((with_reducible apply ownsRow_new) <;> (simp; done)) | (with_reducible apply World.ownsRow.alloc))); done)); (focus (first | (with_reducible rfl) | (simp [Act.eval, Act.put]; done))); (focus (exact (H2.out.up (show Up w _ from Chg.trans ((Chg.refl Nowhere w).alloc (.cells #[.int .i64 0, .int .i64 0, .slice none 0 0, .slice none 0 0, .slice none 0 0, .slice none 0 0, .slice none 0 0] 35)) (show Up (w.alloc (.cells #[.int .i64 0, .int .i64 0, .slice none 0 0, .slice none 0 0, .slice none 0 0, .slice none 0 0, .slice none 0 0] 35)) _ from by repeat (first | (with_reducible exact UG.out) | (with_reducible apply Chg.drew) | (with_reducible refine Chg.alloc ?_ _) | ((with_reducible refine Chg.setCell ?_ (.inr ?_) _); rotate_left; (focus (first | (simp; done) | omega | (dsimp only; omega) | (dsimp only; simp; omega)))))))).1)); (focus (intro q hq; obtain ⟨y, _, hy⟩ := List.mem_flatMap.1 hq; exact cells_oneCars y q hy)); (focus (unfold Go.maxLen; have := HP2.out.cs; omega)); (focus (have := HP2.out.cs; omega)); (focus (first | (simp; done) | (simp; omega))); intro v3 w3 h1 h2 h3; have hz5 := h2.size; (try simp at hz5); have hz0 := UG.out.size; have UG := Lib.hid (show Up (w.alloc (.cells #[.int .i64 0, .int .i64 0, .slice none 0 0, .slice none 0 0, .slice none 0 0, .slice none 0 0, .slice none 0 0] 35)) w3 from Chg.new (show Up (w.alloc (.cells #[.int .i64 0, .int .i64 0, .slice none 0 0, .slice none 0 0, .slice none 0 0, .slice none 0 0, .slice none 0 0] 35)) _ from by repeat (first | (with_reducible exact UG.out) | (with_reducible apply Chg.drew) | (with_reducible refine Chg.alloc ?_ _))) h2 (fun i hi h => by simp [Value.ownBlock] at h; simp at hi; omega)); have hz3 := UG.out.size; (first | (with_reducible have HBX := Lib.hid (show Box7 w3 (w.heap.size + 2) from Box7.keep h2 (Box7.drew (Box7.new ((w.alloc (.cells #[.int .i64 0, .int .i64 0, .slice none 0 0, .slice none 0 0, .slice none 0 0, .slice none 0 0, .slice none 0 0] 35)).alloc (.cells #[] 161)) (size2 w _ _).symm)) (ne_own (Nat.ne_of_lt (Nat.lt_succ_self _))))) | skip); obtain ⟨_, E3, e3, rfl, -⟩ := Raw.of_own h1; (try (obtain ⟨⟨x0, f0⟩, ⟨x1, f1⟩, ⟨x2, f2⟩, ⟨x3, f3⟩, ⟨x4, f4⟩, ⟨x5, f5⟩, ⟨x6, f6⟩⟩ := HBX.out.open)); clear h1 h2 h3) | (refine step_appRaw rfl (.tmp 15) (.tmp 19) 32 rfl (w.heap.size + 1) 161 ic _ 2 16 Try.underlying32 HCI.out.1 HCI.out.2.1 HCI.out.2.2.1 HCI.out.2.2.2 rfl (by decide) (.slice (some ⟨w.heap.size + 2, 0, none⟩) 0 0) 0 [] ?_ ?_ L (.slice A2 p.cs.length c2) p.cs.length (p.cs.flatMap CarM.cells) ?_ ?_ ?_ ?_ ?_ ?_ ?_; (focus (first | (with_reducible rfl) | (simp [Act.eval, Act.put]; done))); (focus ((repeat (first | (with_reducible apply ownsRow_drew) | ((with_reducible apply ownsRow_new) <;> (simp; done)) | (with_reducible apply World.ownsRow.alloc))); done)); (focus (first | (with_reducible rfl) | (simp [Act.eval, Act.put]; done))); (focus (exact (H2.out.up (show Up w _ from Chg.trans ((Chg.refl Nowhere w).alloc (.cells #[.int .i64 0, .int .i64 0, .slice none 0 0, .slice none 0 0, .slice none 0 0, .slice none 0 0, .slice none 0 0] 35)) (show Up (w.alloc (.cells #[.int .i64 0, .int .i64 0, .slice none 0 0, .slice none 0 0, .slice none 0 0, .slice none 0 0, .slice none 0 0] 35)) _ from by repeat (first | (with_reducible exact UG.out) | (with_reducible apply Chg.drew) | (with_reducible refine Chg.alloc ?_ _) | ((with_reducible refine Chg.setCell ?_ (.inr ?_) _); rotate_left; (focus (first | (simp; done) | omega | (dsimp only; omega) | (dsimp only; simp; omega)))))))).1)); (focus (intro q hq; obtain ⟨y, _, hy⟩ := List.mem_flatMap.1 hq; exact cells_oneCars y q hy)); (focus (unfold Go.maxLen; have := HP2.out.cs; omega)); (focus (have := HP2.out.cs; omega)); (focus (first | (simp; done) | (simp; omega))); intro v3 w3 h1 h2 h3; have hz5 := h2.size; (try simp at hz5); have hz0 := UG.out.size; have UG := Lib.hid (show Up (w.alloc (.cells #[.int .i64 0, .int .i64 0, .slice none 0 0, .slice none 0 0, .slice none 0 0, .slice none 0 0, .slice none 0 0] 35)) w3 from Chg.new (show Up (w.alloc (.cells #[.int .i64 0, .int .i64 0, .slice none 0 0, .slice none 0 0, .slice none 0 0, .slice none 0 0, .slice none 0 0] 35)) _ from by repeat (first | (with_reducible exact UG.out) | (with_reducible apply Chg.drew) | (with_reducible refine Chg.alloc ?_ _))) h2 (fun i hi h => by simp [Value.ownBlock] at h; simp at hi; omega)); have hz3 := UG.out.size; (first | (with_reducible have HBX := Lib.hid (show Box7 w3 (w.heap.size + 1) from Box7.keep h2 (Box7.drew (Box7.alloc (Box7.new (w.alloc (.cells #[.int .i64 0, .int .i64 0, .slice none 0 0, .slice none 0 0, .slice none 0 0, .slice none 0 0, .slice none 0 0] 35)) (size1 w _).symm) (.cells #[] 161))) (ne_own (Nat.ne_of_gt (Nat.lt_succ_self _))))) | skip); obtain ⟨_, E3, e3, rfl, -⟩ := Raw.of_own h1; (try (obtain ⟨⟨x0, f0⟩, ⟨x1, f1⟩, ⟨x2, f2⟩, ⟨x3, f3⟩, ⟨x4, f4⟩, ⟨x5, f5⟩, ⟨x6, f6⟩⟩ := HBX.out.open)); clear h1 h2 h3))
    all_goals (refine NoPanic.normal ?_; go_wp2_with fail; go_meet)
    all_goals (refine ⟨_, rfl, Lib.hid ?_, Lib.hid ?_⟩)
    all_goals (first | ((with_reducible refine Head7.stored ?_ ?_); (focus (exact HBX.out)); (focus (have := UG.out.size; first | omega | (simp; omega)))) | ((repeat (with_reducible apply Head7.drew)); (with_reducible refine Head7.new ?_ ?_); (focus (simp; done)); (focus (have := UG.out.size; first | omega | (simp; omega)))) | (repeat (first | (with_reducible exact UG.out) | (with_reducible apply Chg.drew) | (with_reducible refine Chg.alloc ?_ _) | ((with_reducible refine Chg.setCell ?_ (.inr ?_) _); rotate_left; (focus (first | (simp; done) | omega | (dsimp only; omega) | (dsimp only; simp; omega)))))))
  case rest =>
    obtain ⟨g, rfl, hH, hU⟩ := hcut
    obtain ⟨wk, hwk⟩ : ∃ x, x = wc := ⟨_, rfl⟩
    subst hwk
    have hlo := hH.out.lo
    have hlg := hH.out.lt
    have UW := Lib.hid (show Up w wk from Chg.trans ((Chg.refl Nowhere w).alloc (.cells #[.int .i64 0, .int .i64 0, .slice none 0 0, .slice none 0 0, .slice none 0 0, .slice none 0 0, .slice none 0 0] 35)) hU.out)
    have BX := Lib.hid (show Box7 wk w.heap.size from Box7.up hU.out (Box7.new w rfl))
    have ST0 := Lib.hid (LoopSt.start hH.out)
    have HLO := Lib.hid (show w.heap.size < g ∧ g < wk.heap.size from ⟨hlo, hlg⟩)
    have hwd := HP.out.wd
    have hbl := HP.out.n2
    have hn1 := HP.out.n1
    have HWD := Lib.hid hwd
    have HBL := Lib.hid hbl
    have UP := Lib.hid (fun (W : World) (h : Chg (fun b => b = g) wk W) => (show Up w W from Chg.new UW.out h (fun i hi e => by have e : i = g := e; omega)))
    clear hH hU hwd
    go_wp2
    go_loopw [4] (fun i wr => ∃ (j : Nat) (vF vB : Value) (Q : Nat → Prop), j ≤ p.fr.length ∧ i = .int .i64 j ∧ Hid (LoopSt wk g p wr vF vB Q j j)) (fun i _ => p.fr.length - (intOf i).toNat)
    case atStart => exact ⟨0, _, _, _, by omega, rfl, ST0⟩
    case round =>
      obtain ⟨j, vF, vB, Q, hj, rfl, hst⟩ := hrel
      have U := Lib.hid (UP.out _ hst.out.ch)
      have r0 : wr.cell? ⟨bm, 0, none⟩ = some (.int .i64 (p.fr.length : Int)) := (Chg.cell U.out Q0.out id).trans (by rw [HWD.out])
      by_cases hlt : j < p.fr.length
      · have hlb : j < p.bk.length := by omega
        obtain ⟨b0, o0, cc0, vs0, he0, -, -, -, hE0, hc0⟩ := H0.out.at_ hlt
        obtain ⟨rfl, rfl⟩ : A0 = some ⟨b0, o0, none⟩ ∧ c0 = cc0 := by simpa using he0
        obtain ⟨F0, f0, rfl, hv0, hf0, hfm0⟩ := hE0
        have E0c := Lib.hid (show w.cell? ⟨b0, o0 + j, none⟩ = some (.slice F0 p.fr[j].length f0) by have := (hc0 0 _ rfl).1; simpa only [Nat.mul_one, Nat.add_zero] using this)
        have V0 := Lib.hid hv0
        have L0 := Lib.hid (And.intro hf0 hfm0)
        have X0 := Lib.hid (show p.fr[j].length ≤ 100000 from by have := HP.out.f j hlt; omega)
        clear hc0 he0 hv0 hf0 hfm0
        obtain ⟨b1, o1, cc1, vs1, he1, -, -, -, hE1, hc1⟩ := H1.out.at_ hlb
        obtain ⟨rfl, rfl⟩ : A1 = some ⟨b1, o1, none⟩ ∧ c1 = cc1 := by simpa using he1
        obtain ⟨F1, f1, rfl, hv1, hf1, hfm1⟩ := hE1
        have E1c := Lib.hid (show w.cell? ⟨b1, o1 + j, none⟩ = some (.slice F1 p.bk[j].length f1) by have := (hc1 0 _ rfl).1; simpa only [Nat.mul_one, Nat.add_zero] using this)
        have V1 := Lib.hid hv1
        have L1 := Lib.hid (And.intro hf1 hfm1)
        have X1 := Lib.hid (show p.bk[j].length ≤ 100000 from by have := HP.out.b j hlb; omega)
        clear hc1 he1 hv1 hf1 hfm1
        go_upto_region 5 with fail
        go_cut [4] (fun i wx => i = .int .i64 j ∧ ∃ (vF' : Value) (Q' : Nat → Prop), Hid (LoopSt wk g p wx vF' vB Q' (j + 1) j))
        case first =>
          have p2 := Chg.cell U.out Q2.out id
          have e1 := Chg.cell U.out E0c.out id
          have p1 := hst.out.cF.1
          go_region_law (first | (go_simp; go_at_call 78; (with_reducible refine (l00Own_any _ _ _ p.fr[j] ((show Ints w L _ p.fr[j] from V0.out).up (Chg.trans U.out (by repeat (first | exact Chg.refl _ _ | apply Chg.drew | apply Chg.drewN | refine Chg.alloc ?_ _)))) X0.out).mono ?_); rintro e w6 ⟨v6, rfl, k6, g6⟩; obtain ⟨A6, c6, rfl, hl6, hc6, -⟩ := k6.shape; have K6 := Lib.hid (show Ints w6 (New wr.heap.size w6.heap.size) _ _ from k6.mono (fun b _ h => ⟨by have := h.1; simpa using this, h.2⟩)); have B6 := Lib.hid (And.intro hl6 hc6); have G6 := Lib.hid (show Up wr w6 from Chg.trans (by repeat (first | exact Chg.refl _ _ | apply Chg.drew | apply Chg.drewN | refine Chg.alloc ?_ _)) g6); have p1 := Chg.cell G6.out hst.out.cF.1 id; have p3 := Chg.cell ((Chg.refl Nowhere w6).alloc (.cells #[.slice A6 p.fr[j].length c6] 25)) p1 id; have y1 := (Chg.frozen G6.out hst.out.cF.1 id).trans hst.out.cF.2; have y0 := (show wr.frozen? ⟨g, 2, none⟩ = false from hst.out.cF.2); clear k6 g6 hl6 hc6) | (refine step_grow1 rfl (.tmp 36) (.tmp 45) rfl (v := vF) (by simp [Act.eval, Act.put]) hlt hst.out.gF (fun b hb => ⟨(hst.out.q b hb).2.1, (hst.out.q b hb).2.2.1⟩) G6.out K6.out B6.out (gx := w6.heap.size) (by simp [Act.eval, Act.put]) (show Up w6 _ from by repeat (first | exact Chg.refl _ _ | apply Chg.drew | refine Chg.alloc ?_ _)) (by simp [cell_new]) (by omega) hst.out.ch.size ?_; intro v' w' h1 h2 h3; obtain ⟨E5, e5, rfl, -⟩ := h1.val; have GG := Lib.hid h1; have GC := Lib.hid h2; have GO := Lib.hid h3; have GU := Lib.hid (up_of h2 (show Up w6 _ from by repeat (first | exact Chg.refl _ _ | apply Chg.drew | refine Chg.alloc ?_ _))); obtain ⟨q1, q2⟩ := CellF.keep h2 (CellF.up (Chg.trans G6.out GU.out) hst.out.cF) (fun h => absurd HLO.out.2 (Nat.not_lt_of_le (show wk.heap.size ≤ g from (hst.out.gF.lt h).1))); clear h1 h2 h3))
          all_goals (go_wp2_with fail; go_meet)
          all_goals exact ⟨rfl, _, _, Lib.hid (LoopSt.stepF hst.out HLO.out.2 G6.out GU.out GG.out GC.out GO.out)⟩
        case rest =>
          obtain ⟨rfl, vF2, Q2, S7⟩ := hcut
          obtain ⟨w7, h7⟩ : ∃ x, x = wc := ⟨_, rfl⟩
          subst h7
          have U7 := Lib.hid (UP.out _ S7.out.ch)
          clear r0
          go_upto_region 6 with fail
          have p2 := Chg.cell U7.out Q3.out id
          have e1 := Chg.cell U7.out E1c.out id
          have p1 := S7.out.cB.1
          go_region_law (first | (go_simp; go_at_call 78; (with_reducible refine (l00Own_any _ _ _ p.bk[j] ((show Ints w L _ p.bk[j] from V1.out).up (Chg.trans U7.out (by repeat (first | exact Chg.refl _ _ | apply Chg.drew | apply Chg.drewN | refine Chg.alloc ?_ _)))) X1.out).mono ?_); rintro e w6 ⟨v6, rfl, k6, g6⟩; obtain ⟨A6, c6, rfl, hl6, hc6, -⟩ := k6.shape; have K6 := Lib.hid (show Ints w6 (New w7.heap.size w6.heap.size) _ _ from k6.mono (fun b _ h => ⟨by have := h.1; simpa using this, h.2⟩)); have B6 := Lib.hid (And.intro hl6 hc6); have G6 := Lib.hid (show Up w7 w6 from Chg.trans (by repeat (first | exact Chg.refl _ _ | apply Chg.drew | apply Chg.drewN | refine Chg.alloc ?_ _)) g6); have p1 := Chg.cell G6.out S7.out.cB.1 id; have p3 := Chg.cell ((Chg.refl Nowhere w6).alloc (.cells #[.slice A6 p.bk[j].length c6] 25)) p1 id; have y1 := (Chg.frozen G6.out S7.out.cB.1 id).trans S7.out.cB.2; have y0 := (show w7.frozen? ⟨g, 3, none⟩ = false from S7.out.cB.2); clear k6 g6 hl6 hc6) | (refine step_grow1 rfl (.tmp 49) (.tmp 58) rfl (v := vB) (by simp [Act.eval, Act.put]) hlb S7.out.gB (fun b hb => ⟨(S7.out.q b hb).2.1, (S7.out.q b hb).2.2.2⟩) G6.out K6.out B6.out (gx := w6.heap.size) (by simp [Act.eval, Act.put]) (show Up w6 _ from by repeat (first | exact Chg.refl _ _ | apply Chg.drew | refine Chg.alloc ?_ _)) (by simp [cell_new]) (by omega) S7.out.ch.size ?_; intro v' w' h1 h2 h3; obtain ⟨E5, e5, rfl, -⟩ := h1.val; have GG := Lib.hid h1; have GC := Lib.hid h2; have GO := Lib.hid h3; have GU := Lib.hid (up_of h2 (show Up w6 _ from by repeat (first | exact Chg.refl _ _ | apply Chg.drew | refine Chg.alloc ?_ _))); obtain ⟨q1, q2⟩ := CellF.keep h2 (CellF.up (Chg.trans G6.out GU.out) S7.out.cB) (fun h => absurd HLO.out.2 (Nat.not_lt_of_le (show wk.heap.size ≤ g from (S7.out.gB.lt h).1))); clear h1 h2 h3))
          all_goals (go_wp2_with fail)
          all_goals (go_roundw; (case rel => (have S8 := LoopSt.stepB S7.out HLO.out.2 G6.out GU.out GG.out GC.out GO.out; first | exact ⟨j + 1, _, _, _, by omega, by go_num, Lib.hid (S8.up (by repeat (first | exact Chg.refl _ _ | apply Chg.drew | apply Chg.drewN | refine Chg.alloc ?_ _)))⟩ | ((repeat apply Exists.intro); exact ⟨⟨j + 1, _, _, _, by omega, by go_num, Lib.hid (S8.up (by repeat (first | exact Chg.refl _ _ | apply Chg.drew | apply Chg.drewN | refine Chg.alloc ?_ _)))⟩, rfl⟩))); (case measure => (first | (simp [intOf]; done) | (simp [intOf]; omega))))
      · obtain rfl : j = p.fr.length := by omega
        have hh := hst.out
        obtain ⟨BF, dF, rfl, hlF, hmF, -⟩ := hh.gF.val
        obtain ⟨BB, dB, rfl, hlB, hmB, -⟩ := hh.gB.val
        obtain ⟨E4, n4, d4, z4⟩ := hh.tl.c4
        obtain ⟨E6, n6, d6, z6⟩ := hh.tl.c6
        have HRF := Lib.hid (hh.gF.rd rfl)
        have HRB := Lib.hid (hh.gB.rd (by rw [HBL.out]))
        have HQ := Lib.hid hh.q
        have HE := Lib.hid (show End7 wr g p.wd p.rk (.slice BF p.fr.length dF) (.slice BB p.fr.length dB) (.slice none 0 0) E4 E6 n4 n6 d4 d6 from ⟨hh.tl.c0, hh.tl.c1, hh.cF.1, hh.cB.1, z4, hh.tl.c5, z6⟩)
        have hsk := hh.ch.size
        have HSK := Lib.hid hsk
        have CH := Lib.hid hh.ch
        obtain ⟨w5, h5⟩ : ∃ x, x = wr := ⟨_, rfl⟩
        subst h5
        clear hh hst z4 z6 U
        go_wp2
        go_loopw [5, 6] (fun i _ wx => ∃ (t : Nat) (vL : Value) (cs : List Value), t ≤ p.ls.length ∧ i = .int .i64 t ∧ Hid (wx.ownsRow w5.heap.size 164 6 vL t cs) ∧ Hid (End7 wx g p.wd p.rk (.slice BF p.fr.length dF) (.slice BB p.fr.length dB) vL E4 E6 n4 n6 d4 d6) ∧ Hid (Chg (fun b => b = g) w5 wx)) (fun i _ _ => p.ls.length - (intOf i).toNat)
        case atStart => exact ⟨0, _, [], by omega, rfl, World.ownsRow_nil _ _ _ _, Lib.hid (HE.out.keep (show Up w5 _ from (by repeat (first | exact Chg.refl _ _ | apply Chg.drew | apply Chg.drewN | refine Chg.alloc ?_ _))) id), Lib.hid (Chg.of_up (by repeat (first | exact Chg.refl _ _ | apply Chg.drew | apply Chg.drewN | refine Chg.alloc ?_ _)))⟩
        clear r0
        case round =>
          obtain ⟨t, vL, cs, ht, rfl, ho, he, hc⟩ := hrel
          have U := Lib.hid (UP.out _ (Chg.trans CH.out hc.out))
          have q5 := Chg.cell U.out Q5.out id
          have hsz5 := hc.out.size
          have hls := HP2.out.ls
          by_cases hlt : t < p.ls.length
          · obtain ⟨b2, o2, cc2, vs2, he2, -, -, -, hE2, hc2⟩ := H3.out.at_ hlt
            obtain ⟨rfl, rfl⟩ : A3 = some ⟨b2, o2, none⟩ ∧ c3 = cc2 := by simpa using he2
            obtain ⟨F2, f2, rfl, hv2, ⟨hf2, hfm2⟩, -⟩ := hE2
            have V2 := Lib.hid hv2
            have X2 := Lib.hid (show p.ls[t].ps.length ≤ 100000 from by have := HP2.out.ps t hlt; omega)
            have e0 := Chg.cell U.out (hc2 0 _ rfl).1 id
            have e1 := Chg.cell U.out (hc2 1 _ rfl).1 id
            have e2 := Chg.cell U.out (hc2 2 _ rfl).1 id
            have e3 := Chg.cell U.out (hc2 3 _ rfl).1 id
            have e4 := Chg.cell U.out (hc2 4 _ rfl).1 id
            have e5 := Chg.cell U.out (hc2 5 _ rfl).1 id
            rw [Nat.add_zero] at e0
            clear hc2 he2 hv2
            have HBX := Lib.hid (fun z u (h : (#[.int .i64 p.ls[t].kd, .int .i64 p.ls[t].car, .int .i64 p.ls[t].bed, .int .i64 p.ls[t].at_, .int .i64 p.ls[t].dir, .slice F2 p.ls[t].ps.length f2] : Array Value)[z]? = some u) => (⟨(cell_new wr _ 164 z).trans h, frozen_new wr _ _ z⟩ : CellF (wr.alloc (.cells #[.int .i64 p.ls[t].kd, .int .i64 p.ls[t].car, .int .i64 p.ls[t].bed, .int .i64 p.ls[t].at_, .int .i64 p.ls[t].dir, .slice F2 p.ls[t].ps.length f2] 164)) ⟨wr.heap.size, z, none⟩ u))
            go_upto_region 12 with (first | (go_at_call 78; refine (l00Own_any _ _ _ p.ls[t].ps ((show Ints w L _ p.ls[t].ps from V2.out).up (Chg.trans U.out (by repeat (first | exact Chg.refl _ _ | apply Chg.drew | apply Chg.drewN | refine Chg.alloc ?_ _)))) X2.out).mono ?_; rintro e w6 ⟨v6, rfl, k6, g6⟩; obtain ⟨A7, c7, rfl, hl7, hc7, -⟩ := k6.shape; have G6 := Lib.hid g6; obtain ⟨x0, -⟩ := CellF.up g6 (HBX.out 0 _ rfl); obtain ⟨x1, -⟩ := CellF.up g6 (HBX.out 1 _ rfl); obtain ⟨x2, -⟩ := CellF.up g6 (HBX.out 2 _ rfl); obtain ⟨x3, -⟩ := CellF.up g6 (HBX.out 3 _ rfl); obtain ⟨x4, -⟩ := CellF.up g6 (HBX.out 4 _ rfl); obtain ⟨x5, y5⟩ := CellF.up g6 (HBX.out 5 _ rfl); clear k6 g6))
            have GW := Lib.hid (show Up wr w6 from Chg.trans ((Chg.refl Nowhere wr).alloc (.cells #[.int .i64 p.ls[t].kd, .int .i64 p.ls[t].car, .int .i64 p.ls[t].bed, .int .i64 p.ls[t].at_, .int .i64 p.ls[t].dir, .slice F2 p.ls[t].ps.length f2] 164)) G6.out)
            have CG := Lib.hid (show Chg (fun b => b = wr.heap.size) w6 (w6.setCell ⟨wr.heap.size, 5, none⟩ (.slice A7 p.ls[t].ps.length c7)) from Chg.setCell (Chg.refl (fun b => b = wr.heap.size) w6) (p := ⟨wr.heap.size, 5, none⟩) (.inl (show wr.heap.size = wr.heap.size from rfl)) _)
            have hgr : ¬ g = wr.heap.size := by have := HLO.out.2; have := HSK.out; omega
            have d0 : (w6.setCell ⟨wr.heap.size, 5, none⟩ (.slice A7 p.ls[t].ps.length c7)).cell? ⟨wr.heap.size, 0, none⟩ = _ := cell_ne x0 (by omega)
            have d1 : (w6.setCell ⟨wr.heap.size, 5, none⟩ (.slice A7 p.ls[t].ps.length c7)).cell? ⟨wr.heap.size, 1, none⟩ = _ := cell_ne x1 (by omega)
            have d2 : (w6.setCell ⟨wr.heap.size, 5, none⟩ (.slice A7 p.ls[t].ps.length c7)).cell? ⟨wr.heap.size, 2, none⟩ = _ := cell_ne x2 (by omega)
            have d3 : (w6.setCell ⟨wr.heap.size, 5, none⟩ (.slice A7 p.ls[t].ps.length c7)).cell? ⟨wr.heap.size, 3, none⟩ = _ := cell_ne x3 (by omega)
            have d4 : (w6.setCell ⟨wr.heap.size, 5, none⟩ (.slice A7 p.ls[t].ps.length c7)).cell? ⟨wr.heap.size, 4, none⟩ = _ := cell_ne x4 (by omega)
            have d5 : (w6.setCell ⟨wr.heap.size, 5, none⟩ (.slice A7 p.ls[t].ps.length c7)).cell? ⟨wr.heap.size, 5, none⟩ = _ := World.cell?_setCell_same _ _ _ x5
            have HE7 := Lib.hid ((he.out.keep GW.out id).keep CG.out hgr)
            have hz6 := GW.out.size
            have HO7 := Lib.hid (ownsRow_kept (ownsRow_kept ho.out GW.out (fun _ _ h => h)) CG.out (fun b hb e => by have h1 := (ho.out.lt b hb).2; have e : b = wr.heap.size := e; omega))
            have HZ7 := Lib.hid (show w5.heap.size ≤ (w6.setCell ⟨wr.heap.size, 5, none⟩ (.slice A7 p.ls[t].ps.length c7)).heap.size by have := CG.out.size; omega)
            clear x0 x1 x2 x3 x4 x5 y5 e0 e1 e2 e3 e4 e5 hgr
            generalize (w6.setCell ⟨wr.heap.size, 5, none⟩ (.slice A7 p.ls[t].ps.length c7)) = w7 at CG d0 d1 d2 d3 d4 d5 HE7 HO7 HZ7 ⊢
            have p5 := HE7.out.c5.1
            go_wp2_with (at_builtin; refine wpList_append_own2 (P := Try.prog) rfl _ _ 33 rfl w5.heap.size 164 il _ 6 64 Try.underlying33 HLI.out.1 HLI.out.2.1 HLI.out.2.2.1 HLI.out.2.2.2 rfl (by decide) vL t cs rfl (HO7.out.alloc _) ⟨w7.heap.size, 0, none⟩ 1 1 [.int .i64 p.ls[t].kd, .int .i64 p.ls[t].car, .int .i64 p.ls[t].bed, .int .i64 p.ls[t].at_, .int .i64 p.ls[t].dir, .slice A7 p.ls[t].ps.length c7] rfl rfl ?_ ?_ (by unfold Go.maxLen; omega) (by omega) (Nat.le_trans HZ7.out (by simp)) ?_; (focus (intro z u hz; rw [add_zero]; exact (cell_new w7 _ _ z).trans (by simpa using hz))); (focus (intro u hu; simp at hu; rcases hu with rfl | rfl | rfl | rfl | rfl | rfl <;> rfl)); intro v' w' h1 h2 h3; have h2 := Chg.of_grown h2; obtain ⟨-, E5, e5, rfl, -⟩ := Raw.of_own h1; have HO8 := Lib.hid h1; have GC := Lib.hid h2; have HG := Lib.hid (show ¬ (fun b => vL.ownBlock = some b) g from fun h => by have h1 := (HO7.out.lt g h).1; have := HLO.out.2; have := HSK.out; omega); have HE8 := Lib.hid ((HE7.out.keep (show Up w7 _ from (by repeat (first | exact Chg.refl _ _ | apply Chg.drew | apply Chg.drewN | refine Chg.alloc ?_ _))) id).keep h2 HG.out); obtain ⟨q1, q2⟩ := HE8.out.c5; clear h1 h2 h3)
            have CG9 := Lib.hid (show Chg (fun b => b = g) w' (w'.setCell ⟨g, 5, none⟩ (.slice E5 (t + 1) e5)) from Chg.setCell (Chg.refl (fun b => b = g) w') (p := ⟨g, 5, none⟩) (.inl (show g = g from rfl)) _)
            have HO9 := Lib.hid (ownsRow_kept HO8.out CG9.out (fun b hb e => by have h1 := (HO8.out.lt b hb).1; have e : b = g := e; have := HLO.out.2; have := HSK.out; omega))
            have CT9 := Lib.hid (show Chg (fun b => b = g) w5 (w'.setCell ⟨g, 5, none⟩ (.slice E5 (t + 1) e5)) from Chg.trans (Chg.newS (Chg.trans (Chg.newS (Chg.trans hc.out (Chg.of_up GW.out)) CG.out (fun i hi e => by have e : i = wr.heap.size := e; omega)) (Chg.of_up (show Up w7 _ from (by repeat (first | exact Chg.refl _ _ | apply Chg.drew | apply Chg.drewN | refine Chg.alloc ?_ _))))) GC.out (fun i hi e => by have := (HO7.out.lt i e).1; omega)) CG9.out)
            go_roundw
            case rel => exact ⟨t + 1, _, _, by omega, by go_num, HO9, Lib.hid HE8.out.set, CT9⟩
            case measure => first | (simp [intOf]; done) | (simp [intOf]; omega)
          · obtain rfl : t = p.ls.length := by omega
            obtain ⟨-, E5, e5, rfl, -⟩ := Raw.of_own ho.out
            obtain ⟨z0, z1, z2, z3, z4, ⟨z5, -⟩, z6⟩ := he.out
            have UX := Lib.hid (Chg.trans CH.out hc.out)
            obtain ⟨⟨y0, f0⟩, ⟨y1, f1⟩, ⟨y2, f2⟩, ⟨y3, f3⟩, ⟨y4, f4⟩, ⟨y5, f5⟩, ⟨y6, f6⟩⟩ := (Box7.keep UX.out BX.out (fun e => by have e : w.heap.size = g := e; have := HLO.out.1; omega)).open
            have HLO1 := HLO.out.1
            have hgn : ¬ w.heap.size = g := by omega
            have hgn2 : ¬ g = w.heap.size := by omega
            go_wp2
            have CF := Lib.hid (show Chg (fun b => b = w.heap.size) wr (((((((wr.setCell ⟨w.heap.size, 0, none⟩ (.int .i64 p.wd)).setCell ⟨w.heap.size, 1, none⟩ (.int .i64 p.rk)).setCell ⟨w.heap.size, 2, none⟩ (.slice BF p.fr.length dF)).setCell ⟨w.heap.size, 3, none⟩ (.slice BB p.fr.length dB)).setCell ⟨w.heap.size, 4, none⟩ (.slice E4 n4 d4)).setCell ⟨w.heap.size, 5, none⟩ (.slice E5 p.ls.length e5)).setCell ⟨w.heap.size, 6, none⟩ (.slice E6 n6 d6)) from (Chg.setCell (Chg.setCell (Chg.setCell (Chg.setCell (Chg.setCell (Chg.setCell (Chg.setCell (Chg.refl (fun b => b = w.heap.size) wr) (p := ⟨w.heap.size, 0, none⟩) (.inl (show w.heap.size = w.heap.size from rfl)) _) (p := ⟨w.heap.size, 1, none⟩) (.inl (show w.heap.size = w.heap.size from rfl)) _) (p := ⟨w.heap.size, 2, none⟩) (.inl (show w.heap.size = w.heap.size from rfl)) _) (p := ⟨w.heap.size, 3, none⟩) (.inl (show w.heap.size = w.heap.size from rfl)) _) (p := ⟨w.heap.size, 4, none⟩) (.inl (show w.heap.size = w.heap.size from rfl)) _) (p := ⟨w.heap.size, 5, none⟩) (.inl (show w.heap.size = w.heap.size from rfl)) _) (p := ⟨w.heap.size, 6, none⟩) (.inl (show w.heap.size = w.heap.size from rfl)) _))
            refine bodyPost_ret (v := .agg #[.int .i64 p.wd, .int .i64 p.rk, .slice BF p.fr.length dF, .slice BB p.fr.length dB, .slice E4 n4 d4, .slice E5 p.ls.length e5, .slice E6 n6 d6]) (by simp [results, Try.results48, go_sem, y0, y1, y2, y3, y4, y5, y6]) rfl ?_
            exact ⟨BF, BB, dF, dB, _, _, _, _, _, _, _, _, _, by rw [HBL.out], bed_out HRF.out (fun b hb => ⟨(HQ.out b hb).1, (HQ.out b hb).2.1⟩) hc.out CF.out HLO.out, bed_out (by rw [HBL.out]; exact HRB.out) (fun b hb => ⟨(HQ.out b hb).1, (HQ.out b hb).2.1⟩) hc.out CF.out HLO.out, Chg.new (UP.out _ UX.out) CF.out (fun i hi e => by have e : i = w.heap.size := e; omega)⟩
end Go.Proofs.Ytchfjglofmphfaa
