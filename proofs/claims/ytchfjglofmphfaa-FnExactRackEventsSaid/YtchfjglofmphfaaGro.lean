/- Rows of the call's own that grow by elements with readings. No condition. -/
import Derived.Test.YtchfjglofmphfaaRakF
set_option linter.unusedSimpArgs false
set_option linter.unusedVariables false
set_option maxRecDepth 100000
set_option maxHeartbeats 4000000
namespace Go.Proofs.Ytchfjglofmphfaa
open Go.ChangeShapes Go.WideShapes Go.ChangeAt Go.RowKit
/-- a row of the call's own that holds readings of the first j of xs -/
def Grow {α : Type} (ty : TypeId) (m : Nat) (E : World → List Value → α → Prop) (w : World) (base : Nat) (v : Value) (xs : List α) (j : Nat) : Prop := ∃ cs, w.ownsRow base ty m v j cs ∧ ChunkIn m E w cs xs j
section
variable {α : Type} {ty : TypeId} {m : Nat} {E E' : World → List Value → α → Prop} {w w' : World} {base : Nat} {v : Value} {xs : List α} {j : Nat} {S : Nat → Prop}
theorem Grow.nil (w : World) (base : Nat) (xs : List α) : Grow ty m E w base (.slice none 0 0) xs 0 := ⟨[], World.ownsRow_nil _ _ _ _, ChunkIn.start⟩
theorem Grow.kept (h : Grow ty m E w base v xs j) (k : Chg S w w') (hS : ∀ g, v.ownBlock = some g → ¬ S g) (hE : ∀ vs x, E w vs x → E' w' vs x) : Grow ty m E' w' base v xs j :=
  let ⟨cs, h1, h2⟩ := h; ⟨cs, ownsRow_kept h1 k hS, h2.keep hE⟩
theorem Grow.up (h : Grow ty m E w base v xs j) (k : Up w w') (hE : ∀ vs x, E w vs x → E' w' vs x) : Grow ty m E' w' base v xs j := h.kept k (fun _ _ h => h) hE
theorem Grow.lt (h : Grow ty m E w base v xs j) {g : Nat} (hg : v.ownBlock = some g) : base ≤ g ∧ g < w.heap.size := let ⟨_, h1, _⟩ := h; h1.lt g hg
theorem Grow.rd (h : Grow ty m E w base v xs j) (hj : j = xs.length) : Nst m E w (New base w.heap.size) v xs := by
  subst hj
  obtain ⟨cs, h1, h2⟩ := h
  exact ⟨cs, Raw.of_own h1, fun i hi => h2.2 i hi hi⟩
theorem Grow.val (h : Grow ty m E w base v xs j) : ∃ A c, v = .slice A j c ∧ j ≤ c ∧ c ≤ 9223372036854775807 ∧ (A = none → c = 0) := by
  obtain ⟨cs, h1, h2⟩ := h
  obtain ⟨-, A, c, h3, h4, h5, -, h6⟩ := Raw.of_own h1
  exact ⟨A, c, h3, h4, h5, h6⟩
theorem step_appGrow {P : Program} {ops : Array Oper} {o : Oper} {a : Act} {K : Act → World → Prop} {Q : Exit → Act → World → Prop} {F : Prop} (hgd : o.guard = none) (s x : Operand) (t : TypeId)
    (ho : o.op = .call { callee := .builtin .append, args := #[s, x], argTypes := #[t, t] })
    (i : TypeInfo) (z : Value) (bytes : Nat) (ht : P.underlying t = some (.slice ty)) (hi : P.info? ty = some i) (hz : i.zero = some z)
    (hsize : i.size = m) (hby : i.bytes = bytes) (hzs : z.cells.size = m) (hsz : 0 < m)
    (hs : a.eval s = v) (hown : Grow ty m E w base v xs j) (hj : j < xs.length)
    (g : Nat) (vs : List Value) (hx : a.eval x = .slice (some ⟨g, 0, none⟩) 1 1) (hl : vs.length = m) (hnews : ∀ k u, vs[k]? = some u → w.cell? ⟨g, k, none⟩ = some u) (h1 : ∀ u ∈ vs, u.oneCell' = true)
    (hE : ∀ w', Chg (fun b => v.ownBlock = some b) w w' → (∀ ys y, E w ys y → E' w' ys y) ∧ E' w' vs xs[j])
    (h63 : j + 1 ≤ maxLen) (hbytes : (j + 1) * bytes ≤ 140737488355328) (hbase : base ≤ w.heap.size)
    (h : ∀ v' w', Grow ty m E' w' base v' xs (j + 1) → Chg (fun b => v.ownBlock = some b) w w' → (∀ b, v'.ownBlock = some b → v.ownBlock = some b ∨ w.heap.size ≤ b) → Chg (fun k => base ≤ k) w w' → K (a.put o.dst v') w') :
    if Region.wanted o (yielded ops a.tmps) = true then Oper.wp P o a w K Q else F := by
  obtain ⟨cs, ho1, ho2⟩ := hown
  refine step_append_own2 (P := P) hgd s x t ho base ty i z m bytes ht hi hz hsize hby hzs hsz v j cs hs ho1 ⟨g, 0, none⟩ 1 1 vs hx (by omega) (fun k u hk => ?_) h1 h63 hbytes hbase (fun v' w' k1 k2 k3 => ?_)
  · have := hnews k u hk
    rw [← this]
    unfold Addr.add
    by_cases h0 : k = 0 <;> simp [h0]
  · have hc := Chg.of_grown k2
    obtain ⟨e1, e2⟩ := hE w' hc
    exact h v' w' ⟨cs ++ vs, k1, (ho2.keep e1).next hj hl e2⟩ hc k3 ((Chg.refl _ _).grown k2 fun b hb => .inl (ho1.lt b hb).1)
end
end Go.Proofs.Ytchfjglofmphfaa
