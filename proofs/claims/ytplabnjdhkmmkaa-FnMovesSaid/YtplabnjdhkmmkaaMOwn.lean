/- A copy of the reference's machine. No condition. -/
import Derived.Test.YtplabnjdhkmmkaaPF17
import Derived.Deep.RegionLaw
import Derived.Deep.RegionHeld3
import Derived.Deep.DeepCutAuto
set_option maxRecDepth 100000
set_option maxHeartbeats 4000000
set_option linter.unusedSimpArgs false
set_option linter.unusedVariables false
namespace Go.Proofs.Ytplabnjdhkmmkaa
open Go.ChangeShapes Go.WideShapes Go.ChangeAt Go.RowKit
theorem cellU_at {w : World} {B t : Nat} {a : Array Value} {ty : TypeId} {u : Value} (hB : B = w.heap.size) (h : a[t]? = some u) : CellU (w.alloc (.cells a ty)) ⟨B, t, none⟩ u := by subst hB; exact ⟨(cell_new w a ty t).trans h, frozen_new w a ty t⟩
theorem step_appRaw {P : Program} {w : World} {ops : Array Oper} {o : Oper} {a : Act} {K : Act → World → Prop} {Q : Exit → Act → World → Prop} {F : Prop} (hgd : o.guard = none) (s x : Operand) (t : TypeId)
    (ho : o.op = .call { callee := .builtin .append, args := #[s, x], argTypes := #[t, t] })
    (base : Nat) (e : TypeId) (i : TypeInfo) (z : Value) (m bytes : Nat) (ht : P.underlying t = some (.slice e)) (hi : P.info? e = some i) (hz : i.zero = some z)
    (hsize : i.size = m) (hby : i.bytes = bytes) (hzs : z.cells.size = m) (hsz : 0 < m)
    (v : Value) (n : Nat) (xs : List Value) (hs : a.eval s = v) (hown : w.ownsRow base e m v n xs)
    (S : Nat → Prop) (u : Value) (k : Nat) (ys : List Value) (hx : a.eval x = u) (hsrc : Raw w S m u k ys) (h1 : ∀ q ∈ ys, q.oneCell' = true)
    (h63 : n + k ≤ maxLen) (hbytes : (n + k) * bytes ≤ 140737488355328) (hbase : base ≤ w.heap.size)
    (h : ∀ v' w', w'.ownsRow base e m v' (n + k) (xs ++ ys) → Chg (fun b => v.ownBlock = some b) w w' → (∀ g, v'.ownBlock = some g → v.ownBlock = some g ∨ w.heap.size ≤ g) → K (a.put o.dst v') w') :
    if Region.wanted o (yielded ops a.tmps) = true then Oper.wp P o a w K Q else F := by
  obtain ⟨hl, A, c, rfl, hlc, hcm, hr, hnn⟩ := hsrc
  cases A with
  | none =>
    have hk : k = 0 := by
      rcases Nat.eq_zero_or_pos k with h0 | h0
      · exact h0
      · obtain ⟨b, oo, h1, _⟩ := hr h0
        cases h1
    subst hk
    obtain rfl := hnn rfl
    have hy : ys = [] := List.eq_nil_of_length_eq_zero (by simpa using hl)
    subst hy
    have hw : Region.wanted o (yielded ops a.tmps) = true := by simp [Region.wanted, hgd]
    rw [if_pos hw]
    have hrun := run_append_owned_none (P := P) (w := w) base t o.type e i m ht hi v n _ hown
    have hK := h v w (by simpa using hown) (Chg.refl _ _) (fun b hb => .inl hb)
    unfold Oper.wp
    simp [execOp, ho, resolve, invoke, builtin, hs, hx, hrun, Result.andThen]
    exact hK
  | some ad =>
    have hnews : ∀ j q, ys[j]? = some q → w.cell? (ad.add j) = some q := by
      intro j q hq
      obtain ⟨hj, he⟩ := List.getElem?_eq_some_iff.1 hq
      have hp : 0 < k := by
        rcases Nat.eq_zero_or_pos k with h0 | h0
        · rw [h0, Nat.zero_mul] at hl; omega
        · exact h0
      obtain ⟨b, oo, h1, _, _, hc⟩ := hr hp
      injection h1 with h1
      subst h1
      have := (hc j hj).1
      rw [he] at this
      rw [← this]
      unfold Addr.add
      by_cases h0 : j = 0 <;> simp [h0]
    have hw : Region.wanted o (yielded ops a.tmps) = true := by simp [Region.wanted, hgd]
    rw [if_pos hw]
    refine wp_app_own2M (P := P) s x t ho base e i z m bytes ht hi hz hsize hby hzs hsz v n xs hs hown ad k c ys hx hl hnews h1 h63 hbytes hbase ?_
    intro v' w' h2 h3 h4
    exact h v' w' h2 (Chg.of_grown h3) h4
theorem size1 (w : World) (a : Obj) : (w.alloc a).heap.size = w.heap.size + 1 := by simp
theorem size2 (w : World) (a b : Obj) : ((w.alloc a).alloc b).heap.size = w.heap.size + 2 := by simp
theorem ne_own {a b n c : Nat} (h : a ≠ b) : ¬ (Value.slice (some ⟨a, 0, none⟩) n c).ownBlock = some b := fun e => h (by simpa [Value.ownBlock] using e)
theorem ownsRow_new {w : World} {base g : Nat} {e : TypeId} {m : Nat} (hg : g = w.heap.size) (hb : base ≤ g) : (w.alloc (.cells #[] e)).ownsRow base e m (.slice (some ⟨g, 0, none⟩) 0 0) 0 [] := by
  subst hg
  exact World.ownsRow_made w #[] 0 hb (by unfold Go.maxLen; omega) (by simp)
theorem ownsRow_drew {w : World} {base n m : Nat} {e : TypeId} {v : Value} {xs : List Value} (h : w.ownsRow base e m v n xs) : w.drew.ownsRow base e m v n xs := h
def z7 : Nat → Value
  | 0 => .int .i64 0
  | 1 => .int .i64 0
  | _ => .slice none 0 0
/-- a machine's box without a machine -/
def Box7 (w : World) (B : Nat) : Prop := ∀ t, t < 7 → CellU w ⟨B, t, none⟩ (z7 t)
theorem Box7.up {w w' : World} {B : Nat} (g : Up w w') (h : Box7 w B) : Box7 w' B := fun t ht => (h t ht).up g
theorem Box7.drew {w : World} {B : Nat} (h : Box7 w B) : Box7 w.drew B := h
theorem Box7.alloc {w : World} {B : Nat} (h : Box7 w B) (o : Obj) : Box7 (w.alloc o) B := Box7.up ((Chg.refl _ _).alloc o) h
theorem Box7.keep {S : Nat → Prop} {w w' : World} {B : Nat} (g : Chg S w w') (h : Box7 w B) (hn : ¬ S B) : Box7 w' B := fun t ht => (h t ht).keep g hn
theorem Box7.new (w : World) {B : Nat} (h : B = w.heap.size) : Box7 (w.alloc (.cells #[.int .i64 0, .int .i64 0, .slice none 0 0, .slice none 0 0, .slice none 0 0, .slice none 0 0, .slice none 0 0] 37)) B := fun t ht => by
  refine cellU_at h ?_
  match t, ht with
  | 0, _ => rfl
  | 1, _ => rfl
  | 2, _ => rfl
  | 3, _ => rfl
  | 4, _ => rfl
  | 5, _ => rfl
  | 6, _ => rfl
theorem Box7.open {w : World} {B : Nat} (h : Box7 w B) : (w.cell? ⟨B, 0, none⟩ = some (.int .i64 0) ∧ w.frozen? ⟨B, 0, none⟩ = false) ∧ (w.cell? ⟨B, 1, none⟩ = some (.int .i64 0) ∧ w.frozen? ⟨B, 1, none⟩ = false) ∧ (w.cell? ⟨B, 2, none⟩ = some (.slice none 0 0) ∧ w.frozen? ⟨B, 2, none⟩ = false) ∧ (w.cell? ⟨B, 3, none⟩ = some (.slice none 0 0) ∧ w.frozen? ⟨B, 3, none⟩ = false) ∧ (w.cell? ⟨B, 4, none⟩ = some (.slice none 0 0) ∧ w.frozen? ⟨B, 4, none⟩ = false) ∧ (w.cell? ⟨B, 5, none⟩ = some (.slice none 0 0) ∧ w.frozen? ⟨B, 5, none⟩ = false) ∧ (w.cell? ⟨B, 6, none⟩ = some (.slice none 0 0) ∧ w.frozen? ⟨B, 6, none⟩ = false) :=
  ⟨h 0 (by omega), h 1 (by omega), h 2 (by omega), h 3 (by omega), h 4 (by omega), h 5 (by omega), h 6 (by omega)⟩
theorem infoCarB : (Try.prog.info? 139).map (fun i => (i.zero, i.size, i.bytes)) = some (some (.agg #[.bool false, .int .i64 0]), 2, 16) := by kernel_rfl
theorem rowMore {w : World} {base base' : Nat} {e : TypeId} {size n : Nat} {v : Value} {xs : List Value} (h : w.ownsRow base e size v n xs) (hb : base' ≤ base) : w.ownsRow base' e size v n xs := by
  refine ⟨h.1, ?_⟩
  rcases h.2 with h1 | ⟨g, cap, cur, e, hg, r⟩
  · exact .inl h1
  · exact .inr ⟨g, cap, cur, e, by omega, r⟩
theorem ownMore {w : World} {base base' : Nat} {v : Value} {xs : List Int} (h : OwnI w base v xs) (hb : base' ≤ base) : OwnI w base' v xs := ⟨rowMore h.1 hb, h.2⟩
theorem OwnI.up' {w w' : World} {base : Nat} {v : Value} {xs : List Int} (h : OwnI w base v xs) (g : Up w w') : OwnI w' base v xs := h.kept g (fun _ _ h => h)
theorem up_of {S : Nat → Prop} {a b c : World} (_ : Chg S b c) (u : Up a b) : Up a b := u
theorem chgNewS {S T : Nat → Prop} {a b c : World} (h : Chg S a b) (k : Chg T b c) (hT : ∀ i, i < a.heap.size → ¬ T i) : Chg S a c :=
  ⟨k.os.trans h.os, k.tape.trans h.tape, k.output.trans h.output, Nat.le_trans h.size k.size, fun i hi hn => (k.block i (Nat.lt_of_lt_of_le hi h.size) (hT i hi)).trans (h.block i hi hn)⟩
theorem carCells_one : ∀ (cs : List (Bool × Int)) (q : Value), q ∈ carCells cs → q.oneCell' = true := by
  intro cs q hq
  unfold carCells at hq
  obtain ⟨y, _, hy⟩ := List.mem_flatMap.1 hq
  simp at hy
  rcases hy with rfl | rfl <;> rfl
/-- the copy's beginning, whose box is made last -/
theorem head_new {w0 w : World} {K g b5 : Nat} {m : MachM} {E3 A6 : Option Addr} {n3 e3 n6 c6 : Nat} {ds : List Int} (hc : w.ownsRow (w0.heap.size + 1) 139 2 (.slice E3 n3 e3) m.cs.length (carCells m.cs)) (hd : OwnI w b5 (.slice A6 n6 c6) ds) (hk : ds.length ≤ K) (hcd : Off2 (.slice E3 n3 e3) (.slice A6 n6 c6)) (h5 : w0.heap.size < b5) (hg : g = w.heap.size) (h0 : w0.heap.size < w.heap.size) :
    MachX (w.alloc (.cells #[.int .i64 m.wd, .int .i64 m.rack, .slice none 0 0, .slice none 0 0, .slice E3 n3 e3, .slice none 0 0, .slice A6 n6 c6] 37)) (fun b => w0.heap.size < b) K g (partM m 0 0 0) (.slice none 0 0) (.slice none 0 0) (.slice E3 n3 e3) (.slice none 0 0) (.slice A6 n6 c6) [] [] := by
  subst hg
  have hu : Up w w := Chg.refl _ _
  have hv := half2 (S := fun b => w0.heap.size < b) (K := K) (m := m) (ownsRow_kept (rowMore hc (Nat.zero_le _)) hu (fun _ _ h => h)) (ownMore (hd.kept hu (fun _ _ h => h)) (Nat.zero_le _)) hk (fun g hg => by have := (hc.lt g hg).1; omega) (fun g hg => by have := (hd.1.lt g hg).1; omega) hcd
  exact hv.box (fun b hb => by show w0.heap.size < b; omega) _
/-- the copy's beginning, whose box was made before -/
theorem head_stored {w0 w : World} {K g b5 : Nat} {m : MachM} {E3 A6 : Option Addr} {n3 e3 n6 c6 : Nat} {ds : List Int} (hc : w.ownsRow (w0.heap.size + 1) 139 2 (.slice E3 n3 e3) m.cs.length (carCells m.cs)) (hd : OwnI w b5 (.slice A6 n6 c6) ds) (hk : ds.length ≤ K) (hcd : Off2 (.slice E3 n3 e3) (.slice A6 n6 c6)) (h5 : w0.heap.size < b5) (hb : Box7 w g) (h0 : w0.heap.size < g) (hgc : ∀ x, (Value.slice E3 n3 e3).ownBlock = some x → x ≠ g) (hgd : ∀ x, (Value.slice A6 n6 c6).ownBlock = some x → x ≠ g) :
    MachX (((((((w.setCell ⟨g, 0, none⟩ (.int .i64 m.wd)).setCell ⟨g, 1, none⟩ (.int .i64 m.rack)).setCell ⟨g, 2, none⟩ (.slice none 0 0)).setCell ⟨g, 3, none⟩ (.slice none 0 0)).setCell ⟨g, 4, none⟩ (.slice E3 n3 e3)).setCell ⟨g, 5, none⟩ (.slice none 0 0)).setCell ⟨g, 6, none⟩ (.slice A6 n6 c6)) (fun b => w0.heap.size < b) K g (partM m 0 0 0) (.slice none 0 0) (.slice none 0 0) (.slice E3 n3 e3) (.slice none 0 0) (.slice A6 n6 c6) [] [] := by
  have hu : Up w w := Chg.refl _ _
  have hv := half2 (S := fun b => w0.heap.size < b ∧ b ≠ g) (K := K) (m := m) (ownsRow_kept (rowMore hc (Nat.zero_le _)) hu (fun _ _ h => h)) (ownMore (hd.kept hu (fun _ _ h => h)) (Nat.zero_le _)) hk (fun x hx => ⟨by have := (hc.lt x hx).1; omega, hgc x hx⟩) (fun x hx => ⟨by have := (hd.1.lt x hx).1; omega, hgd x hx⟩) hcd
  have CF : Chg (fun b => b = g) w (((((((w.setCell ⟨g, 0, none⟩ (.int .i64 m.wd)).setCell ⟨g, 1, none⟩ (.int .i64 m.rack)).setCell ⟨g, 2, none⟩ (.slice none 0 0)).setCell ⟨g, 3, none⟩ (.slice none 0 0)).setCell ⟨g, 4, none⟩ (.slice E3 n3 e3)).setCell ⟨g, 5, none⟩ (.slice none 0 0)).setCell ⟨g, 6, none⟩ (.slice A6 n6 c6)) := (Chg.setCell (Chg.setCell (Chg.setCell (Chg.setCell (Chg.setCell (Chg.setCell (Chg.setCell (Chg.refl (fun b => b = g) w) (p := ⟨g, 0, none⟩) (.inl (show g = g from rfl)) (.int .i64 m.wd)) (p := ⟨g, 1, none⟩) (.inl (show g = g from rfl)) (.int .i64 m.rack)) (p := ⟨g, 2, none⟩) (.inl (show g = g from rfl)) (.slice none 0 0)) (p := ⟨g, 3, none⟩) (.inl (show g = g from rfl)) (.slice none 0 0)) (p := ⟨g, 4, none⟩) (.inl (show g = g from rfl)) (.slice E3 n3 e3)) (p := ⟨g, 5, none⟩) (.inl (show g = g from rfl)) (.slice none 0 0)) (p := ⟨g, 6, none⟩) (.inl (show g = g from rfl)) (.slice A6 n6 c6))
  have hv2 := (hv.keep CF (fun b _ hb e => hb.2 e)).mono (T := fun b => w0.heap.size < b) (fun _ _ h => h.1)
  have ne : ∀ s t : Nat, s ≠ t → (⟨g, s, none⟩ : Addr) ≠ ⟨g, t, none⟩ := fun s t h e => h (by injection e)
  have o : ∀ t, t < 7 → CellU w ⟨g, t, none⟩ (z7 t) := fun t ht => ⟨(hb t ht).1, (hb t ht).2⟩
  refine half_at hv2 h0 (fun e => hgc g e rfl) (fun e => hgd g e rfl) ?_ ?_ ?_ ?_ ?_ ?_ ?_
  · exact ((((((((o 0 (by omega)).set_same).set_other (ne 1 0 (by omega))).set_other (ne 2 0 (by omega))).set_other (ne 3 0 (by omega))).set_other (ne 4 0 (by omega))).set_other (ne 5 0 (by omega))).set_other (ne 6 0 (by omega)))
  · exact ((((((((o 1 (by omega)).set_other (ne 0 1 (by omega))).set_same).set_other (ne 2 1 (by omega))).set_other (ne 3 1 (by omega))).set_other (ne 4 1 (by omega))).set_other (ne 5 1 (by omega))).set_other (ne 6 1 (by omega)))
  · exact ((((((((o 2 (by omega)).set_other (ne 0 2 (by omega))).set_other (ne 1 2 (by omega))).set_same).set_other (ne 3 2 (by omega))).set_other (ne 4 2 (by omega))).set_other (ne 5 2 (by omega))).set_other (ne 6 2 (by omega)))
  · exact ((((((((o 3 (by omega)).set_other (ne 0 3 (by omega))).set_other (ne 1 3 (by omega))).set_other (ne 2 3 (by omega))).set_same).set_other (ne 4 3 (by omega))).set_other (ne 5 3 (by omega))).set_other (ne 6 3 (by omega)))
  · exact ((((((((o 4 (by omega)).set_other (ne 0 4 (by omega))).set_other (ne 1 4 (by omega))).set_other (ne 2 4 (by omega))).set_other (ne 3 4 (by omega))).set_same).set_other (ne 5 4 (by omega))).set_other (ne 6 4 (by omega)))
  · exact ((((((((o 5 (by omega)).set_other (ne 0 5 (by omega))).set_other (ne 1 5 (by omega))).set_other (ne 2 5 (by omega))).set_other (ne 3 5 (by omega))).set_other (ne 4 5 (by omega))).set_same).set_other (ne 6 5 (by omega)))
  · exact ((((((((o 6 (by omega)).set_other (ne 0 6 (by omega))).set_other (ne 1 6 (by omega))).set_other (ne 2 6 (by omega))).set_other (ne 3 6 (by omega))).set_other (ne 4 6 (by omega))).set_other (ne 5 6 (by omega))).set_same)
theorem l07Own_any (w : World) {S : Nat → Prop} {K p : Nat} {m : MachM} {F B C L D : Value} {fs bs : List Value} (h : MachX w S K p m F B C L D fs bs) (hi : MInv m) (hKK : K ≤ 90000) :
    Calls Try.prog 35 #[.pointer (some ⟨p, 0, none⟩)] w fun e w' => ∃ F' B' C' L' D' fs' bs', e = .returned (machVal m F' B' C' L' D') ∧ MachV w' (fun b => w.heap.size < b) K m F' B' C' L' D' fs' bs' ∧ Up w w' := by
  obtain ⟨ds, hds, hdk⟩ := h.d
  obtain ⟨A6, c6, rfl, -⟩ := hds.ints.shape
  obtain ⟨A5, c5, rfl, -⟩ := ownsRow_shape h.c
  obtain ⟨A0, c0, rfl, -⟩ := ownsRow_shape h.f
  obtain ⟨A1, c1, rfl, -⟩ := ownsRow_shape h.b
  obtain ⟨AL, cL, rfl, -⟩ := (let ⟨_, hl⟩ := h.l; ownsRow_shape hl : ∃ A c, L = .slice A m.nl c ∧ _)
  have HX := Lib.hid h
  have HI := Lib.hid hi
  have HDS := Lib.hid hds
  have HDK := Lib.hid hdk
  have HCS := Lib.hid (show m.cs.length = 4 from hi.cl)
  have Q0 := Lib.hid h.c0.1
  have Q1 := Lib.hid h.c1.1
  have Q4 := Lib.hid h.c4.1
  have Q6 := Lib.hid h.c6.1
  have hbm := h.c0.lt
  clear h hi hds hdk
  obtain ⟨ic, hci, hcz0, hcz1, hcz2⟩ := info_parts infoCarB
  have HCI := Lib.hid (And.intro hci (And.intro hcz0 (And.intro hcz1 hcz2)))
  clear hci hcz0 hcz1 hcz2
  go_enter Try.func35, Try.ntmps35
  go_upto_region 1 with fail
  go_cut [3] (fun y wx => ∃ (g : Nat) (C' D' : Value), y = .pointer (some ⟨g, 0, none⟩) ∧ Hid (w.heap.size < g ∧ g < wx.heap.size) ∧ Hid (MachX wx (fun b => w.heap.size < b) K g (partM m 0 0 0) (.slice none 0 0) (.slice none 0 0) C' (.slice none 0 0) D' [] []) ∧ Hid (Up (w.alloc (.cells #[.int .i64 0, .int .i64 0, .slice none 0 0, .slice none 0 0, .slice none 0 0, .slice none 0 0, .slice none 0 0] 37)) wx))
  case first =>
    have UG := Lib.hid (Chg.refl Nowhere (w.alloc (.cells #[.int .i64 0, .int .i64 0, .slice none 0 0, .slice none 0 0, .slice none 0 0, .slice none 0 0, .slice none 0 0] 37)))
    refine wp_region_noPanic ?_
    go_region_held3 (fun w' => w'.cell? ⟨p, 0, none⟩ = some (.int .i64 m.wd) ∧ w'.cell? ⟨p, 1, none⟩ = some (.int .i64 m.rack) ∧ w'.cell? ⟨p, 4, none⟩ = some (.slice A5 m.cs.length c5) ∧ w'.cell? ⟨p, 6, none⟩ = some (.slice A6 ds.length c6)) (exact ⟨Chg.cell (show Up w _ from Chg.trans ((Chg.refl Nowhere w).alloc (.cells #[.int .i64 0, .int .i64 0, .slice none 0 0, .slice none 0 0, .slice none 0 0, .slice none 0 0, .slice none 0 0] 37)) (show Up (w.alloc (.cells #[.int .i64 0, .int .i64 0, .slice none 0 0, .slice none 0 0, .slice none 0 0, .slice none 0 0, .slice none 0 0] 37)) _ from by repeat (first | (with_reducible exact UG.out) | (with_reducible apply Chg.drew) | (with_reducible refine Chg.alloc ?_ _) | ((with_reducible refine Chg.setCell ?_ (.inr ?_) _); rotate_left; (focus (first | (simp; done) | omega | (dsimp only; omega) | (dsimp only; simp; omega))))))) Q0.out id, Chg.cell (show Up w _ from Chg.trans ((Chg.refl Nowhere w).alloc (.cells #[.int .i64 0, .int .i64 0, .slice none 0 0, .slice none 0 0, .slice none 0 0, .slice none 0 0, .slice none 0 0] 37)) (show Up (w.alloc (.cells #[.int .i64 0, .int .i64 0, .slice none 0 0, .slice none 0 0, .slice none 0 0, .slice none 0 0, .slice none 0 0] 37)) _ from by repeat (first | (with_reducible exact UG.out) | (with_reducible apply Chg.drew) | (with_reducible refine Chg.alloc ?_ _) | ((with_reducible refine Chg.setCell ?_ (.inr ?_) _); rotate_left; (focus (first | (simp; done) | omega | (dsimp only; omega) | (dsimp only; simp; omega))))))) Q1.out id, Chg.cell (show Up w _ from Chg.trans ((Chg.refl Nowhere w).alloc (.cells #[.int .i64 0, .int .i64 0, .slice none 0 0, .slice none 0 0, .slice none 0 0, .slice none 0 0, .slice none 0 0] 37)) (show Up (w.alloc (.cells #[.int .i64 0, .int .i64 0, .slice none 0 0, .slice none 0 0, .slice none 0 0, .slice none 0 0, .slice none 0 0] 37)) _ from by repeat (first | (with_reducible exact UG.out) | (with_reducible apply Chg.drew) | (with_reducible refine Chg.alloc ?_ _) | ((with_reducible refine Chg.setCell ?_ (.inr ?_) _); rotate_left; (focus (first | (simp; done) | omega | (dsimp only; omega) | (dsimp only; simp; omega))))))) Q4.out id, Chg.cell (show Up w _ from Chg.trans ((Chg.refl Nowhere w).alloc (.cells #[.int .i64 0, .int .i64 0, .slice none 0 0, .slice none 0 0, .slice none 0 0, .slice none 0 0, .slice none 0 0] 37)) (show Up (w.alloc (.cells #[.int .i64 0, .int .i64 0, .slice none 0 0, .slice none 0 0, .slice none 0 0, .slice none 0 0, .slice none 0 0] 37)) _ from by repeat (first | (with_reducible exact UG.out) | (with_reducible apply Chg.drew) | (with_reducible refine Chg.alloc ?_ _) | ((with_reducible refine Chg.setCell ?_ (.inr ?_) _); rotate_left; (focus (first | (simp; done) | omega | (dsimp only; omega) | (dsimp only; simp; omega))))))) Q6.out id⟩) (first | (go_at_call 27; refine (ownI_any _ _ _ ds (HDS.out.ints.up (Chg.trans ((Chg.refl Nowhere w).alloc (.cells #[.int .i64 0, .int .i64 0, .slice none 0 0, .slice none 0 0, .slice none 0 0, .slice none 0 0, .slice none 0 0] 37)) (Chg.trans UG.out (by repeat (first | exact Chg.refl _ _ | apply Chg.drew | apply Chg.drewN | refine Chg.alloc ?_ _))))) (by have := HDK.out; omega)).mono ?_; rintro e w6 ⟨v6, rfl, k6, g6⟩; obtain ⟨A7, c7, rfl, -⟩ := k6.ints.shape; have HD := Lib.hid k6; have hz8 := UG.out.size; have HC := Lib.hid (ownsRow_kept HC.out (show Up w3 w6 from Chg.trans (by repeat (first | exact Chg.refl _ _ | apply Chg.drew | apply Chg.drewN | refine Chg.alloc ?_ _)) g6) (fun _ _ h => h)); have HCD := Lib.hid (show Off2 (.slice E3 m.cs.length e3) (.slice A7 ds.length c7) from fun x h1 h2 => by have h3 := HC3.out x h1; have h4 := (k6.1.lt x h2).1; (try simp at h4); omega); have UG := Lib.hid (Chg.trans UG.out (Chg.trans (by repeat (first | exact Chg.refl _ _ | apply Chg.drew | apply Chg.drewN | refine Chg.alloc ?_ _)) g6)); have hz6 := UG.out.size; have hz7 := g6.size; (try simp at hz7); (first | (have HBX := Lib.hid (show Box7 w6 _ from Box7.up (Chg.trans (by repeat (first | exact Chg.refl _ _ | apply Chg.drew | apply Chg.drewN | refine Chg.alloc ?_ _)) g6) HBX.out)) | (first | (with_reducible have HBX := Lib.hid (show Box7 w6 (w3.heap.size) from Box7.up g6 (Box7.new w3 rfl))); have HGC := Lib.hid (show ∀ x, (Value.slice E3 m.cs.length e3).ownBlock = some x → x ≠ w3.heap.size from fun x hx e => by have := HC3.out x hx; omega) | skip)); (try (obtain ⟨⟨x0, f0⟩, ⟨x1, f1⟩, ⟨x2, f2⟩, ⟨x3, f3⟩, ⟨x4, f4⟩, ⟨x5, f5⟩, ⟨x6, f6⟩⟩ := HBX.out.open)); clear k6 g6) | (refine step_appRaw rfl (.tmp 15) (.tmp 19) 34 rfl (w.heap.size + 1) 139 ic _ 2 16 Try.underlying34 HCI.out.1 HCI.out.2.1 HCI.out.2.2.1 HCI.out.2.2.2 rfl (by decide) (.slice (some ⟨w.heap.size + 1, 0, none⟩) 0 0) 0 [] ?_ ?_ (New 0 w.heap.size) (.slice A5 m.cs.length c5) m.cs.length (carCells m.cs) ?_ ?_ ?_ ?_ ?_ ?_ ?_; (focus (first | (with_reducible rfl) | (simp [Act.eval, Act.put]; done))); (focus ((repeat (first | (with_reducible apply ownsRow_drew) | ((with_reducible apply ownsRow_new) <;> (simp; done)) | (with_reducible apply World.ownsRow.alloc))); done)); (focus (first | (with_reducible rfl) | (simp [Act.eval, Act.put]; done))); (focus (exact ((Raw.of_own HX.out.c).up (show Up w _ from Chg.trans ((Chg.refl Nowhere w).alloc (.cells #[.int .i64 0, .int .i64 0, .slice none 0 0, .slice none 0 0, .slice none 0 0, .slice none 0 0, .slice none 0 0] 37)) (show Up (w.alloc (.cells #[.int .i64 0, .int .i64 0, .slice none 0 0, .slice none 0 0, .slice none 0 0, .slice none 0 0, .slice none 0 0] 37)) _ from by repeat (first | (with_reducible exact UG.out) | (with_reducible apply Chg.drew) | (with_reducible refine Chg.alloc ?_ _) | ((with_reducible refine Chg.setCell ?_ (.inr ?_) _); rotate_left; (focus (first | (simp; done) | omega | (dsimp only; omega) | (dsimp only; simp; omega)))))))))); (focus (exact fun q hq => carCells_one _ q hq)); (focus (unfold Go.maxLen; have := HCS.out; omega)); (focus (have := HCS.out; omega)); (focus (first | (simp; done) | (simp; omega))); intro v3 w3 h1 h2 h3; have hz5 := h2.size; (try simp at hz5); have hz0 := UG.out.size; have UG := Lib.hid (show Up (w.alloc (.cells #[.int .i64 0, .int .i64 0, .slice none 0 0, .slice none 0 0, .slice none 0 0, .slice none 0 0, .slice none 0 0] 37)) w3 from Chg.new (show Up (w.alloc (.cells #[.int .i64 0, .int .i64 0, .slice none 0 0, .slice none 0 0, .slice none 0 0, .slice none 0 0, .slice none 0 0] 37)) _ from by repeat (first | (with_reducible exact UG.out) | (with_reducible apply Chg.drew) | (with_reducible refine Chg.alloc ?_ _))) h2 (fun i hi h => by simp [Value.ownBlock] at h; simp at hi; omega)); have hz3 := UG.out.size; rw [Nat.zero_add, List.nil_append] at h1; obtain ⟨_, E3, e3, rfl, -⟩ := Raw.of_own h1; (first | (with_reducible have HBX := Lib.hid (show Box7 w3 (w.heap.size + 2) from Box7.keep h2 (Box7.drew (Box7.new ((w.alloc (.cells #[.int .i64 0, .int .i64 0, .slice none 0 0, .slice none 0 0, .slice none 0 0, .slice none 0 0, .slice none 0 0] 37)).alloc (.cells #[] 139)) (size2 w _ _).symm)) (ne_own (Nat.ne_of_lt (Nat.lt_succ_self _))))); have HGC := Lib.hid (show ∀ x, (Value.slice E3 m.cs.length e3).ownBlock = some x → x ≠ w.heap.size + 2 from fun x hx e => (h3 x hx).elim (fun h => by simp [Value.ownBlock] at h; omega) (fun h => by simp at h; omega)) | skip); (try (obtain ⟨⟨x0, f0⟩, ⟨x1, f1⟩, ⟨x2, f2⟩, ⟨x3, f3⟩, ⟨x4, f4⟩, ⟨x5, f5⟩, ⟨x6, f6⟩⟩ := HBX.out.open)); have HC := Lib.hid h1; have HC3 := Lib.hid (show ∀ x, (Value.slice E3 m.cs.length e3).ownBlock = some x → x < w3.heap.size from fun x hx => (h1.lt x hx).2); clear h1 h2 h3) | (refine step_appRaw rfl (.tmp 15) (.tmp 19) 34 rfl (w.heap.size + 1) 139 ic _ 2 16 Try.underlying34 HCI.out.1 HCI.out.2.1 HCI.out.2.2.1 HCI.out.2.2.2 rfl (by decide) (.slice (some ⟨w.heap.size + 2, 0, none⟩) 0 0) 0 [] ?_ ?_ (New 0 w.heap.size) (.slice A5 m.cs.length c5) m.cs.length (carCells m.cs) ?_ ?_ ?_ ?_ ?_ ?_ ?_; (focus (first | (with_reducible rfl) | (simp [Act.eval, Act.put]; done))); (focus ((repeat (first | (with_reducible apply ownsRow_drew) | ((with_reducible apply ownsRow_new) <;> (simp; done)) | (with_reducible apply World.ownsRow.alloc))); done)); (focus (first | (with_reducible rfl) | (simp [Act.eval, Act.put]; done))); (focus (exact ((Raw.of_own HX.out.c).up (show Up w _ from Chg.trans ((Chg.refl Nowhere w).alloc (.cells #[.int .i64 0, .int .i64 0, .slice none 0 0, .slice none 0 0, .slice none 0 0, .slice none 0 0, .slice none 0 0] 37)) (show Up (w.alloc (.cells #[.int .i64 0, .int .i64 0, .slice none 0 0, .slice none 0 0, .slice none 0 0, .slice none 0 0, .slice none 0 0] 37)) _ from by repeat (first | (with_reducible exact UG.out) | (with_reducible apply Chg.drew) | (with_reducible refine Chg.alloc ?_ _) | ((with_reducible refine Chg.setCell ?_ (.inr ?_) _); rotate_left; (focus (first | (simp; done) | omega | (dsimp only; omega) | (dsimp only; simp; omega)))))))))); (focus (exact fun q hq => carCells_one _ q hq)); (focus (unfold Go.maxLen; have := HCS.out; omega)); (focus (have := HCS.out; omega)); (focus (first | (simp; done) | (simp; omega))); intro v3 w3 h1 h2 h3; have hz5 := h2.size; (try simp at hz5); have hz0 := UG.out.size; have UG := Lib.hid (show Up (w.alloc (.cells #[.int .i64 0, .int .i64 0, .slice none 0 0, .slice none 0 0, .slice none 0 0, .slice none 0 0, .slice none 0 0] 37)) w3 from Chg.new (show Up (w.alloc (.cells #[.int .i64 0, .int .i64 0, .slice none 0 0, .slice none 0 0, .slice none 0 0, .slice none 0 0, .slice none 0 0] 37)) _ from by repeat (first | (with_reducible exact UG.out) | (with_reducible apply Chg.drew) | (with_reducible refine Chg.alloc ?_ _))) h2 (fun i hi h => by simp [Value.ownBlock] at h; simp at hi; omega)); have hz3 := UG.out.size; rw [Nat.zero_add, List.nil_append] at h1; obtain ⟨_, E3, e3, rfl, -⟩ := Raw.of_own h1; (first | (with_reducible have HBX := Lib.hid (show Box7 w3 (w.heap.size + 1) from Box7.keep h2 (Box7.drew (Box7.alloc (Box7.new (w.alloc (.cells #[.int .i64 0, .int .i64 0, .slice none 0 0, .slice none 0 0, .slice none 0 0, .slice none 0 0, .slice none 0 0] 37)) (size1 w _).symm) (.cells #[] 139))) (ne_own (Nat.ne_of_gt (Nat.lt_succ_self _))))); have HGC := Lib.hid (show ∀ x, (Value.slice E3 m.cs.length e3).ownBlock = some x → x ≠ w.heap.size + 1 from fun x hx e => (h3 x hx).elim (fun h => by simp [Value.ownBlock] at h; omega) (fun h => by simp at h; omega)) | skip); (try (obtain ⟨⟨x0, f0⟩, ⟨x1, f1⟩, ⟨x2, f2⟩, ⟨x3, f3⟩, ⟨x4, f4⟩, ⟨x5, f5⟩, ⟨x6, f6⟩⟩ := HBX.out.open)); have HC := Lib.hid h1; have HC3 := Lib.hid (show ∀ x, (Value.slice E3 m.cs.length e3).ownBlock = some x → x < w3.heap.size from fun x hx => (h1.lt x hx).2); clear h1 h2 h3))
    all_goals (refine NoPanic.normal ?_; go_wp2_with fail; go_meet)
    all_goals (refine ⟨_, .slice E3 m.cs.length e3, .slice A7 ds.length c7, rfl, Lib.hid ?_, Lib.hid ?_, Lib.hid ?_⟩)
    all_goals (first | ((with_reducible refine head_stored HC.out HD.out HDK.out HCD.out ?_ HBX.out ?_ HGC.out ?_); (focus (first | omega | (simp; omega))); (focus (first | omega | (simp; omega))); (focus (intro x hx e; have h9 := (HD.out.1.lt x hx).1; (try simp at h9); omega))) | ((with_reducible refine head_new HC.out HD.out HDK.out HCD.out ?_ ?_ ?_); (focus (first | omega | (simp; omega))); (focus (first | rfl | (simp; done))); (focus (have h9 := UG.out.size; (try simp at h9); omega))) | (focus (have h9 := UG.out.size; (try simp at h9); (try simp [World.setCell]); omega)) | (focus (repeat (first | (with_reducible exact UG.out) | (with_reducible apply Chg.drew) | (with_reducible refine Chg.alloc ?_ _) | ((with_reducible refine Chg.setCell ?_ (.inr ?_) _); rotate_left; (focus (first | (simp; done) | omega | (dsimp only; omega) | (dsimp only; simp; omega))))))))
  case rest =>
    obtain ⟨g, C', D', rfl, hgl, hM, hU⟩ := hcut
    obtain ⟨wk, hwk⟩ : ∃ x, x = wc := ⟨_, rfl⟩
    subst hwk
    have UW := Lib.hid (show Up w wk from Chg.trans ((Chg.refl Nowhere w).alloc (.cells #[.int .i64 0, .int .i64 0, .slice none 0 0, .slice none 0 0, .slice none 0 0, .slice none 0 0, .slice none 0 0] 37)) hU.out)
    have BX := Lib.hid (show Box7 wk w.heap.size from Box7.up hU.out (Box7.new w rfl))
    obtain ⟨n, hn⟩ : ∃ n, n = m.fr.length := ⟨_, rfl⟩
    have HN := Lib.hid hn
    have HB := Lib.hid (show m.bk.length = n by have h1 := HI.out.fl; have h2 := HI.out.bl; omega)
    have HWD := Lib.hid (show m.wd = (n : Int) by have h1 := HI.out.fl; omega)
    have hn24 : n ≤ 24 := by have := HI.out.wd; have := HWD.out; omega
    have HGL := Lib.hid hgl.out
    have UP := Lib.hid (fun (W : World) (h : Chg (fun b => w.heap.size < b) wk W) => (show Up w W from Chg.new UW.out h (fun i hi e => by have e : w.heap.size < i := e; omega)))
    clear hU hgl hn
    go_wp2
    go_loopw [4] (fun i wr => ∃ (j : Nat) (F' B' : Value) (fs' bs' : List Value), j ≤ n ∧ i = .int .i64 j ∧ Hid (MachX wr (fun b => w.heap.size < b) K g (partM m j j 0) F' B' C' (.slice none 0 0) D' fs' bs') ∧ Hid (Chg (fun b => w.heap.size < b) wk wr)) (fun i _ => n - (intOf i).toNat)
    case atStart => exact ⟨0, _, _, _, _, by omega, rfl, hM, Lib.hid (Chg.refl _ _)⟩
    case round =>
      obtain ⟨j, F', B', fs', bs', hj, rfl, hx, hg⟩ := hrel
      have U := Lib.hid (UP.out _ hg.out)
      have r0 : wr.cell? ⟨p, 0, none⟩ = some (.int .i64 (n : Int)) := (Chg.cell U.out Q0.out id).trans (by rw [HWD.out])
      by_cases hlt : j < n
      rotate_left
      · obtain rfl : j = n := by omega
        have hw5 := hx.out
        obtain ⟨w5, h5⟩ : ∃ x, x = wr := ⟨_, rfl⟩
        subst h5
        have HG5 := Lib.hid hg.out
        have HNI5 := Lib.hid (show NewIn (fun b => w.heap.size < b) w5 from fun b hb => by have h1 := U.out.size; have h2 := hg.out.size; have h3 := HGL.out; show w.heap.size < b; omega)
        obtain ⟨A3, c3, rfl, -⟩ := ownsRow_shape hx.out.f
        obtain ⟨A4, c4, rfl, -⟩ := ownsRow_shape hx.out.b
        have HX5 := Lib.hid hw5
        clear hw5 hx U
        go_wp2
        go_loopw [5, 6] (fun i _ wx => ∃ (t : Nat) (L' : Value), t ≤ m.nl ∧ i = .int .i64 t ∧ Hid (MachX wx (fun b => w.heap.size < b) K g (partM m j j t) (.slice A3 fs'.length c3) (.slice A4 bs'.length c4) C' L' D' fs' bs') ∧ Hid (Chg (fun b => w.heap.size < b) w5 wx)) (fun i _ _ => m.nl - (intOf i).toNat)
        case atStart => exact ⟨0, _, by omega, rfl, Lib.hid (HX5.out.up (by repeat (first | exact Chg.refl _ _ | apply Chg.drew | apply Chg.drewN | refine Chg.alloc ?_ _))), Lib.hid (Chg.of_up (by repeat (first | exact Chg.refl _ _ | apply Chg.drew | apply Chg.drewN | refine Chg.alloc ?_ _)))⟩
        clear r0
        case round =>
          obtain ⟨t, L', ht, rfl, hx, hc⟩ := hrel
          have U := Lib.hid (UP.out _ (Chg.trans HG5.out hc.out))
          have q5 := Chg.cell U.out HX.out.c5.1 id
          obtain ⟨csL, hl0, hI0⟩ := hx.out.ps
          obtain ⟨AL2, cL2, rfl, hlL, -, -⟩ := ownsRow_shape hl0
          have HL0 := Lib.hid hl0
          have HI0 := Lib.hid hI0
          have hnl := HI.out.nl
          clear hl0 hI0
          by_cases hlt : t < m.nl
          rotate_left
          · obtain rfl : t = m.nl := by omega
            have HME := Lib.hid (show MachX wr (fun b => w.heap.size < b) K g m (.slice A3 fs'.length c3) (.slice A4 bs'.length c4) C' _ D' fs' bs' by have h9 := hx.out; have e9 : partM m j j m.nl = m := (by have h1 := HN.out; have h2 := HB.out; have h3 := partM_all m; rw [← h1, h2] at h3; exact h3); rw [e9] at h9; exact h9)
            obtain ⟨A7, c7, rfl, -⟩ := ownsRow_shape HME.out.c
            obtain ⟨d2, hd2, -⟩ := HME.out.d
            obtain ⟨A8, c8, rfl, -⟩ := hd2.ints.shape
            have k0 := HME.out.c0.1
            have k1 := HME.out.c1.1
            have k2 := HME.out.c2.1
            have k3 := HME.out.c3.1
            have k4 := HME.out.c4.1
            have k5 := HME.out.c5.1
            have k6 := HME.out.c6.1
            obtain ⟨⟨y0, f0⟩, ⟨y1, f1⟩, ⟨y2, f2⟩, ⟨y3, f3⟩, ⟨y4, f4⟩, ⟨y5, f5⟩, ⟨y6, f6⟩⟩ := (Box7.keep (Chg.trans HG5.out hc.out) BX.out (fun e => by have e : w.heap.size < w.heap.size := e; omega)).open
            have hgn : ¬ w.heap.size = g := by have := HGL.out; omega
            have hgn2 : ¬ g = w.heap.size := by have := HGL.out; omega
            clear hd2 hx
            go_wp2
            have CF := Lib.hid (show Chg (fun b => b = w.heap.size) wr (((((((wr.setCell ⟨w.heap.size, 0, none⟩ (.int .i64 m.wd)).setCell ⟨w.heap.size, 1, none⟩ (.int .i64 m.rack)).setCell ⟨w.heap.size, 2, none⟩ (.slice A3 fs'.length c3)).setCell ⟨w.heap.size, 3, none⟩ (.slice A4 bs'.length c4)).setCell ⟨w.heap.size, 4, none⟩ (.slice A7 m.cs.length c7)).setCell ⟨w.heap.size, 5, none⟩ (.slice AL2 m.nl cL2)).setCell ⟨w.heap.size, 6, none⟩ (.slice A8 d2.length c8)) from (Chg.setCell (Chg.setCell (Chg.setCell (Chg.setCell (Chg.setCell (Chg.setCell (Chg.setCell (Chg.refl (fun b => b = w.heap.size) wr) (p := ⟨w.heap.size, 0, none⟩) (.inl (show w.heap.size = w.heap.size from rfl)) _) (p := ⟨w.heap.size, 1, none⟩) (.inl (show w.heap.size = w.heap.size from rfl)) _) (p := ⟨w.heap.size, 2, none⟩) (.inl (show w.heap.size = w.heap.size from rfl)) _) (p := ⟨w.heap.size, 3, none⟩) (.inl (show w.heap.size = w.heap.size from rfl)) _) (p := ⟨w.heap.size, 4, none⟩) (.inl (show w.heap.size = w.heap.size from rfl)) _) (p := ⟨w.heap.size, 5, none⟩) (.inl (show w.heap.size = w.heap.size from rfl)) _) (p := ⟨w.heap.size, 6, none⟩) (.inl (show w.heap.size = w.heap.size from rfl)) _))
            refine bodyPost_ret (v := machVal m (.slice A3 fs'.length c3) (.slice A4 bs'.length c4) (.slice A7 m.cs.length c7) (.slice AL2 m.nl cL2) (.slice A8 d2.length c8)) (by simp [results, Try.results35, go_sem, machVal, y0, y1, y2, y3, y4, y5, y6]) rfl ?_
            exact ⟨_, _, _, _, _, _, _, rfl, HME.out.val.keep CF.out (fun b _ h e => by have h : w.heap.size < b := h; have e : b = w.heap.size := e; omega), Chg.new U.out CF.out (fun i hi e => by have e : i = w.heap.size := e; omega)⟩
          obtain ⟨g6, cL6, ki, ci, bi, ai, di, Ap, np, xs, Pp, hL6, e0, e1, e2, e3, e4, e5, ip, lp⟩ := HX.out.infoAt hlt
          injection hL6 with a1 a2 a3
          obtain rfl := a1
          have V2 := Lib.hid ip
          have LP := Lib.hid lp
          have hh := cc6 U.out e0 e1 e2 e3 e4 e5
          obtain ⟨e0, e1, e2, e3, e4, e5⟩ := hh
          clear a2 a3 ip lp
          have HBX := Lib.hid (fun z u (h : (#[.int .i64 ki, .int .i64 ci, .int .i64 bi, .int .i64 ai, .int .i64 di, .slice Ap xs.length np] : Array Value)[z]? = some u) => (⟨(cell_new wr _ 118 z).trans h, frozen_new wr _ _ z⟩ : CellU (wr.alloc (.cells #[.int .i64 ki, .int .i64 ci, .int .i64 bi, .int .i64 ai, .int .i64 di, .slice Ap xs.length np] 118)) ⟨wr.heap.size, z, none⟩ u))
          go_upto_region 12 with (first | (go_at_call 27; refine (ownI_any _ _ _ xs (V2.out.up (Chg.trans U.out (by repeat (first | exact Chg.refl _ _ | apply Chg.drew | apply Chg.drewN | refine Chg.alloc ?_ _)))) (by have := LP.out; omega)).mono ?_; rintro e w6 ⟨v6, rfl, k6, g6'⟩; obtain ⟨A9, c9, rfl, -⟩ := k6.ints.shape; have G6 := Lib.hid g6'; have K6 := Lib.hid (show OwnI w6 (wr.heap.size + 1) _ xs from ownMore k6 (by simp)); obtain ⟨x0, -⟩ := CellU.up (HBX.out 0 _ rfl) g6'; obtain ⟨x1, -⟩ := CellU.up (HBX.out 1 _ rfl) g6'; obtain ⟨x2, -⟩ := CellU.up (HBX.out 2 _ rfl) g6'; obtain ⟨x3, -⟩ := CellU.up (HBX.out 3 _ rfl) g6'; obtain ⟨x4, -⟩ := CellU.up (HBX.out 4 _ rfl) g6'; obtain ⟨x5, y5⟩ := CellU.up (HBX.out 5 _ rfl) g6'; clear k6 g6'))
          have GW := Lib.hid (show Up wr w6 from Chg.trans ((Chg.refl Nowhere wr).alloc (.cells #[.int .i64 ki, .int .i64 ci, .int .i64 bi, .int .i64 ai, .int .i64 di, .slice Ap xs.length np] 118)) G6.out)
          have CG := Lib.hid (show Chg (fun b => b = wr.heap.size) w6 (w6.setCell ⟨wr.heap.size, 5, none⟩ (.slice A9 xs.length c9)) from Chg.setCell (Chg.refl (fun b => b = wr.heap.size) w6) (p := ⟨wr.heap.size, 5, none⟩) (.inl (show wr.heap.size = wr.heap.size from rfl)) _)
          have hgr : ¬ g = wr.heap.size := by have := hx.out.c0.lt; have h9 : g < wr.heap.size := this; omega
          have d0 : (w6.setCell ⟨wr.heap.size, 5, none⟩ (.slice A9 xs.length c9)).cell? ⟨wr.heap.size, 0, none⟩ = _ := (World.cell?_setCell_other _ _ _ _ (fun e => by injection e with _ e2; omega)).trans x0
          have d1 : (w6.setCell ⟨wr.heap.size, 5, none⟩ (.slice A9 xs.length c9)).cell? ⟨wr.heap.size, 1, none⟩ = _ := (World.cell?_setCell_other _ _ _ _ (fun e => by injection e with _ e2; omega)).trans x1
          have d2 : (w6.setCell ⟨wr.heap.size, 5, none⟩ (.slice A9 xs.length c9)).cell? ⟨wr.heap.size, 2, none⟩ = _ := (World.cell?_setCell_other _ _ _ _ (fun e => by injection e with _ e2; omega)).trans x2
          have d3 : (w6.setCell ⟨wr.heap.size, 5, none⟩ (.slice A9 xs.length c9)).cell? ⟨wr.heap.size, 3, none⟩ = _ := (World.cell?_setCell_other _ _ _ _ (fun e => by injection e with _ e2; omega)).trans x3
          have d4 : (w6.setCell ⟨wr.heap.size, 5, none⟩ (.slice A9 xs.length c9)).cell? ⟨wr.heap.size, 4, none⟩ = _ := (World.cell?_setCell_other _ _ _ _ (fun e => by injection e with _ e2; omega)).trans x4
          have d5 : (w6.setCell ⟨wr.heap.size, 5, none⟩ (.slice A9 xs.length c9)).cell? ⟨wr.heap.size, 5, none⟩ = _ := World.cell?_setCell_same _ _ _ x5
          have HU7 := Lib.hid (show Chg (fun b => b = wr.heap.size) wr (w6.setCell ⟨wr.heap.size, 5, none⟩ (.slice A9 xs.length c9)) from Chg.trans (Chg.of_up GW.out) CG.out)
          have hz6 := GW.out.size
          have HO7 := Lib.hid (rowKept HL0.out HU7.out (fun b hb e => by have h1 := (HL0.out.lt b hb).2; have e : b = wr.heap.size := e; omega))
          have HP7 := Lib.hid (K6.out.ints.mono (T := New (wr.heap.size + 1) w6.heap.size) (fun b hb hq => ⟨by have := hq.1; omega, hb⟩) |>.keep CG.out (fun b _ hb e => by have h1 := hb.1; have e : b = wr.heap.size := e; omega))
          have HZ7 := Lib.hid (show (w6.setCell ⟨wr.heap.size, 5, none⟩ (.slice A9 xs.length c9)).heap.size = w6.heap.size by simp [World.setCell])
          have HC5 := Lib.hid (hx.out.c5.keep HU7.out (fun e => hgr e))
          have CG7 := Lib.hid CG.out.size
          clear x0 x1 x2 x3 x4 x5 y5 e0 e1 e2 e3 e4 e5 CG
          generalize (w6.setCell ⟨wr.heap.size, 5, none⟩ (.slice A9 xs.length c9)) = w7 at d0 d1 d2 d3 d4 d5 HU7 HO7 HP7 HZ7 HC5 CG7 ⊢
          have p5 := HC5.out.1
          obtain ⟨il, hli, hlz0, hlz1, hlz2⟩ := info_parts infoInfo
          have HLI := Lib.hid (And.intro hli (And.intro hlz0 (And.intro hlz1 hlz2)))
          clear hli hlz0 hlz1 hlz2
          go_wp2_with (at_builtin; refine wpList_append_own2 (P := Try.prog) rfl _ _ 35 rfl 0 118 il _ 6 _ Try.underlying35 HLI.out.1 HLI.out.2.1 HLI.out.2.2.1 HLI.out.2.2.2 rfl (by decide) (.slice AL2 t cL2) t csL rfl (HO7.out.alloc _) ⟨w7.heap.size, 0, none⟩ 1 1 [.int .i64 ki, .int .i64 ci, .int .i64 bi, .int .i64 ai, .int .i64 di, .slice A9 xs.length c9] rfl rfl ?_ ?_ (by unfold Go.maxLen; omega) (by omega) (Nat.zero_le _) ?_; (focus (intro z u hz; rw [add_zero]; exact (cell_new w7 _ _ z).trans (by simpa using hz))); (focus (intro u hu; simp at hu; rcases hu with rfl | rfl | rfl | rfl | rfl | rfl <;> rfl)); intro v' w' h1 h2 h3; have h2 := Chg.of_grown h2; obtain ⟨E5, e5, rfl, -⟩ := ownsRow_shape h1; have HO8 := Lib.hid h1; have H3 := Lib.hid h3; have GC := Lib.hid (show Chg (fun b => (Value.slice AL2 t cL2).ownBlock = some b) w7 w' from Chg.trans (Chg.of_up ((Chg.refl Nowhere w7).alloc _)) h2); have HG := Lib.hid (show ¬ (Value.slice AL2 t cL2).ownBlock = some g from fun e => hx.out.off_p _ (.tail _ (.tail _ (.tail _ (.head _)))) g e rfl); obtain ⟨q1, q2⟩ := HC5.out.keep GC.out HG.out; clear h1 h2 h3)
          have HCH := Lib.hid (show Chg (fun b => (Value.slice AL2 t cL2).ownBlock = some b) wr w' from Chg.trans (chgNewS (Chg.refl _ wr) HU7.out (fun i hi e => by have e : i = wr.heap.size := e; omega)) GC.out)
          have HM9 := Lib.hid ((hx.out.set_loops HCH.out HO8.out (fun b hb => (H3.out b hb).imp id fun h => by have h1 := HU7.out.size; simp at h; omega) ⟨csL, HL0.out, HI0.out, ki, ci, bi, ai, di, A9, c9, xs, New (wr.heap.size + 1) w6.heap.size, rfl, HP7.out.keep GC.out (fun b _ hb e => by have h1 := (HL0.out.lt b e).2; have := hb.1; omega), LP.out, fun x hy => ⟨by have := hy.1; omega, by have h1 := hy.2; have h2 := GC.out.size; have h3 := HZ7.out; omega, fun e => by have h1 := hy.1; have h2 := hy.2; have h3 := HZ7.out; rcases H3.out x e with h4 | h4; (have := (HL0.out.lt x h4).2; omega); (simp at h4; omega)⟩⟩ rfl).mono (T := (fun b => w.heap.size < b)) (fun b _ hb => hb.elim id fun h => by have h1 := U.out.size; show w.heap.size < b; have h2 := HGL.out; have h3 := hx.out.c0.lt; have h4 : g < wr.heap.size := h3; omega))
          have h9 := HM9.out
          have HM10 := Lib.hid (show MachX (w'.setCell ⟨g, 5, none⟩ (.slice E5 (t + 1) e5)) (fun b => w.heap.size < b) K g (partM m j j (t + 1)) (.slice A3 fs'.length c3) (.slice A4 bs'.length c4) C' (.slice E5 (t + 1) e5) D' fs' bs' from h9)
          have HC9 := Lib.hid (show Chg (fun b => w.heap.size < b) w5 (w'.setCell ⟨g, 5, none⟩ (.slice E5 (t + 1) e5)) from Chg.setCell (Chg.trans hc.out (HCH.out.mono (fun b _ e => hx.out.own _ (.tail _ (.tail _ (.tail _ (.head _)))) b e))) (p := ⟨g, 5, none⟩) (.inl (show w.heap.size < g from HGL.out.1)) _)
          clear h9
          go_roundw
          case rel => exact ⟨t + 1, _, by omega, by go_num, Lib.hid (HM10.out.up (by repeat (first | exact Chg.refl _ _ | apply Chg.drew | apply Chg.drewN | refine Chg.alloc ?_ _))), Lib.hid (Chg.trans HC9.out (Chg.of_up (by repeat (first | exact Chg.refl _ _ | apply Chg.drew | apply Chg.drewN | refine Chg.alloc ?_ _))))⟩
          case measure => first | (simp [intOf]; done) | (simp [intOf]; omega)
      have hltF : j < m.fr.length := by have := HN.out; omega
      have hltB : j < m.bk.length := by have := HB.out; omega
      obtain ⟨gF, cF, AF, kF, hF, e1, oF⟩ := HX.out.frAt hltF
      obtain ⟨gB, cB, AB, kB, hB, e2, oB⟩ := HX.out.bkAt hltB
      injection hF with a1 a2 a3
      injection hB with b1 b2 b3
      obtain rfl := a1
      obtain rfl := b1
      have OF := Lib.hid oF
      have OB := Lib.hid oB
      have E1 := Lib.hid e1
      have E2 := Lib.hid e2
      have LF := Lib.hid (show m.fr[j].length ≤ 100000 by have := (HI.out.fs _ (List.getElem_mem hltF)).1; omega)
      have LB := Lib.hid (show m.bk[j].length ≤ 100000 by have := (HI.out.bs _ (List.getElem_mem hltB)).1; omega)
      have HNI := Lib.hid (show NewIn (fun b => w.heap.size < b) wr from fun b hb => by have h1 := U.out.size; have h2 := hg.out.size; have h3 := HGL.out; show w.heap.size < b; omega)
      have q2 := Chg.cell U.out HX.out.c2.1 id
      have q3 := Chg.cell U.out HX.out.c3.1 id
      rw [show fs.length = m.fr.length from HX.out.fl, ← HN.out] at q2
      rw [show bs.length = m.bk.length from HX.out.bl, HB.out] at q3
      have e1 := Chg.cell U.out E1.out id
      have e2 := Chg.cell U.out E2.out id
      clear oF oB a2 a3 b2 b3
      obtain ⟨A3, c3, rfl, hl3, -, -⟩ := ownsRow_shape hx.out.f
      obtain ⟨A4, c4, rfl, hl4, -, -⟩ := ownsRow_shape hx.out.b
      have hfl : fs'.length = j := by have := hx.out.fl; simp [partM] at this; omega
      have hbl : bs'.length = j := by have := hx.out.bl; simp [partM] at this; omega
      have HFL := Lib.hid hfl
      have HBL := Lib.hid hbl
      have hj0 : (0 : Int) ≤ (j : Int) := by omega
      have hjl : (j : Int) < (n : Int) := by omega
      have hjt : decide ((j : Int) < (n : Int)) = true := decide_eq_true hjl
      clear hfl hbl hl3 hl4
      go_upto_region 5 with fail
      go_cut [4] (fun i wx => i = .int .i64 j ∧ ∃ (F2 : Value) (fs2 : List Value), Hid (MachX wx (fun b => w.heap.size < b) K g (partM m (j + 1) j 0) F2 (Value.slice A4 bs'.length c4) C' (.slice none 0 0) D' fs2 bs') ∧ Hid (Chg (fun b => w.heap.size < b) wk wx))
      case first =>
        have p1 := hx.out.c2.1
        go_region_law (first | (go_simp; go_at_call 27; (with_reducible refine (ownI_any _ _ _ m.fr[j] (OF.out.ints.up (Chg.trans U.out (by repeat (first | exact Chg.refl _ _ | apply Chg.drew | apply Chg.drewN | refine Chg.alloc ?_ _)))) LF.out).mono ?_); rintro e w6 ⟨v6, rfl, k6, g6⟩; obtain ⟨A6, c6, rfl, -⟩ := k6.ints.shape; have K6 := Lib.hid (show OwnI w6 wr.heap.size _ _ from ownMore k6 (by simp)); have G6 := Lib.hid (show Up wr w6 from Chg.trans (by repeat (first | exact Chg.refl _ _ | apply Chg.drew | apply Chg.drewN | refine Chg.alloc ?_ _)) g6); have p1 := Chg.cell G6.out hx.out.c2.1 id; have p3 := Chg.cell ((Chg.refl Nowhere w6).alloc (.cells #[.slice A6 m.fr[j].length c6] 23)) p1 id; clear k6 g6) | (refine step_append_lst rfl (.tmp 36) (.tmp 45) rfl (Value.slice A3 fs'.length c3) fs' (by simp [Act.eval, Act.put]) (rowKept hx.out.f (Chg.trans G6.out (show Up w6 _ from by repeat (first | exact Chg.refl _ _ | apply Chg.drew | refine Chg.alloc ?_ _))) (fun _ _ h => h)) w6.heap.size (.slice A6 m.fr[j].length c6) (by simp [Act.eval, Act.put]) (by simp [cell_new]) rfl (by have := HFL.out; have := HBL.out; omega) ?_; intro v' w' h1 h2 h3; obtain ⟨E5, e5, rfl, -⟩ := ownsRow_shape h1; have U6 := up_of h2 (show Up w6 _ from by repeat (first | exact Chg.refl _ _ | apply Chg.drew | refine Chg.alloc ?_ _)); have hpp : ¬ (Value.slice A3 fs'.length c3).ownBlock = some g := (fun e => hx.out.off_p (Value.slice A3 fs'.length c3) (by simp) g e rfl); obtain ⟨p5, f5⟩ := ((hx.out.c2.up (Chg.trans G6.out U6)).keep h2 hpp); have HP5 := Lib.hid (hx.out.pushF HNI.out (Chg.trans (Chg.of_up (Chg.trans G6.out U6)) h2) h1 (ownMore ((K6.out.up' U6).kept h2 (fun x hy hv => by have h4 := (K6.out.1.lt x hy).1; have h5 := (hx.out.f.lt x hv).2; omega)) (Nat.zero_le _)) (fun b hb => (h3 b hb).imp id fun h => Nat.le_trans (Chg.trans G6.out U6).size h) (fun b hb => (K6.out.1.lt b hb).1) (fun x hy1 hy2 => by have h4 := K6.out.1.lt x hy2; have h6 := U6.size; rcases h3 x hy1 with h5 | h5; (have := (hx.out.f.lt x h5).2; omega); omega)); have HC5 := Lib.hid (Chg.trans (Chg.of_up (Chg.trans G6.out U6)) h2); clear h1 h2 h3 U6))
        all_goals (go_wp2_with fail; go_meet)
        all_goals
          have HGW := hg
          have h9 := HP5.out
          rw [partF hltF] at h9
          have HM9 := Lib.hid h9
          have HG9 := Lib.hid (show Chg (fun b => w.heap.size < b) wk (w'.setCell ⟨g, 2, none⟩ (.slice E5 (fs'.length + 1) e5)) from Chg.setCell (Chg.trans HGW.out (HC5.out.mono (fun b _ e => hx.out.own (Value.slice A3 fs'.length c3) (by simp) b e))) (p := ⟨g, 2, none⟩) (.inl (show w.heap.size < g from HGL.out.1)) _)
          clear h9
          exact ⟨rfl, _, _, HM9, HG9⟩
      case rest =>
        obtain ⟨rfl, F2, fs2, hx2, hg2⟩ := hcut
        obtain ⟨w7, h7⟩ : ∃ x, x = wc := ⟨_, rfl⟩
        subst h7
        have U7 := Lib.hid (UP.out _ hg2.out)
        have HNI7 := Lib.hid (show NewIn (fun b => w.heap.size < b) w7 from fun b hb => by have h1 := U7.out.size; have h2 := hg2.out.size; have h3 := HGL.out; show w.heap.size < b; omega)
        obtain ⟨A2, c2, rfl, -⟩ := ownsRow_shape hx2.out.f
        have q3 := Chg.cell U7.out HX.out.c3.1 id
        rw [show bs.length = m.bk.length from HX.out.bl, HB.out] at q3
        have e2 := Chg.cell U7.out E2.out id
        clear r0 q2 e1 HNI
        have HNI := HNI7
        go_upto_region 6 with fail
        have p1 := hx2.out.c3.1
        go_region_law (first | (go_simp; go_at_call 27; (with_reducible refine (ownI_any _ _ _ m.bk[j] (OB.out.ints.up (Chg.trans U7.out (by repeat (first | exact Chg.refl _ _ | apply Chg.drew | apply Chg.drewN | refine Chg.alloc ?_ _)))) LB.out).mono ?_); rintro e w6 ⟨v6, rfl, k6, g6⟩; obtain ⟨A6, c6, rfl, -⟩ := k6.ints.shape; have K6 := Lib.hid (show OwnI w6 w7.heap.size _ _ from ownMore k6 (by simp)); have G6 := Lib.hid (show Up w7 w6 from Chg.trans (by repeat (first | exact Chg.refl _ _ | apply Chg.drew | apply Chg.drewN | refine Chg.alloc ?_ _)) g6); have p1 := Chg.cell G6.out hx2.out.c3.1 id; have p3 := Chg.cell ((Chg.refl Nowhere w6).alloc (.cells #[.slice A6 m.bk[j].length c6] 23)) p1 id; clear k6 g6) | (refine step_append_lst rfl (.tmp 49) (.tmp 58) rfl (Value.slice A4 bs'.length c4) bs' (by simp [Act.eval, Act.put]) (rowKept hx2.out.b (Chg.trans G6.out (show Up w6 _ from by repeat (first | exact Chg.refl _ _ | apply Chg.drew | refine Chg.alloc ?_ _))) (fun _ _ h => h)) w6.heap.size (.slice A6 m.bk[j].length c6) (by simp [Act.eval, Act.put]) (by simp [cell_new]) rfl (by have := HFL.out; have := HBL.out; omega) ?_; intro v' w' h1 h2 h3; obtain ⟨E5, e5, rfl, -⟩ := ownsRow_shape h1; have U6 := up_of h2 (show Up w6 _ from by repeat (first | exact Chg.refl _ _ | apply Chg.drew | refine Chg.alloc ?_ _)); have hpp : ¬ (Value.slice A4 bs'.length c4).ownBlock = some g := (fun e => hx2.out.off_p (Value.slice A4 bs'.length c4) (by simp) g e rfl); obtain ⟨p5, f5⟩ := ((hx2.out.c3.up (Chg.trans G6.out U6)).keep h2 hpp); have HP5 := Lib.hid (hx2.out.pushB HNI.out (Chg.trans (Chg.of_up (Chg.trans G6.out U6)) h2) h1 (ownMore ((K6.out.up' U6).kept h2 (fun x hy hv => by have h4 := (K6.out.1.lt x hy).1; have h5 := (hx2.out.b.lt x hv).2; omega)) (Nat.zero_le _)) (fun b hb => (h3 b hb).imp id fun h => Nat.le_trans (Chg.trans G6.out U6).size h) (fun b hb => (K6.out.1.lt b hb).1) (fun x hy1 hy2 => by have h4 := K6.out.1.lt x hy2; have h6 := U6.size; rcases h3 x hy1 with h5 | h5; (have := (hx2.out.b.lt x h5).2; omega); omega)); have HC5 := Lib.hid (Chg.trans (Chg.of_up (Chg.trans G6.out U6)) h2); clear h1 h2 h3 U6))
        all_goals (go_wp2_with fail)
        all_goals
          have HGW := hg2
          have h9 := HP5.out
          rw [partB hltB] at h9
          have HM9 := Lib.hid h9
          have HG9 := Lib.hid (show Chg (fun b => w.heap.size < b) wk (w'.setCell ⟨g, 3, none⟩ (.slice E5 (bs'.length + 1) e5)) from Chg.setCell (Chg.trans HGW.out (HC5.out.mono (fun b _ e => hx2.out.own (Value.slice A4 bs'.length c4) (by simp) b e))) (p := ⟨g, 3, none⟩) (.inl (show w.heap.size < g from HGL.out.1)) _)
          clear h9
          (go_roundw; (case rel => (first | exact ⟨j + 1, _, _, _, _, by omega, by go_num, Lib.hid (HM9.out.up (by repeat (first | exact Chg.refl _ _ | apply Chg.drew | apply Chg.drewN | refine Chg.alloc ?_ _))), Lib.hid (Chg.trans HG9.out (Chg.of_up (by repeat (first | exact Chg.refl _ _ | apply Chg.drew | apply Chg.drewN | refine Chg.alloc ?_ _))))⟩ | ((repeat apply Exists.intro); exact ⟨⟨j + 1, _, _, _, _, by omega, by go_num, Lib.hid (HM9.out.up (by repeat (first | exact Chg.refl _ _ | apply Chg.drew | apply Chg.drewN | refine Chg.alloc ?_ _))), Lib.hid (Chg.trans HG9.out (Chg.of_up (by repeat (first | exact Chg.refl _ _ | apply Chg.drew | apply Chg.drewN | refine Chg.alloc ?_ _))))⟩, rfl⟩))); (case measure => (first | (simp [intOf]; done) | (simp [intOf]; omega))))
end Go.Proofs.Ytplabnjdhkmmkaa
