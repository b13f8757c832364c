/- The laws' helpers on proofs, and SameProof, in the form that the laws' walk wants. No condition but room. -/
import Derived.Test.YtjgdcjhmfbefdaaPrf
import Derived.Test.YtjgdcjhmfbefdaaOpenP
set_option linter.unusedSimpArgs false
set_option linter.unusedVariables false
namespace Go.Proofs.Ytjgdcjhmfbefdaa
open Go.ChangeShapes Go.WideShapes Go.ChangeAt Go.RowKit
theorem szProofA_ok (w : World) (S : Nat → Prop) (v : Value) (p : ProofM) (k : Int) (hk : 0 ≤ k ∧ k ≤ 1048576) (hl : (szP p : Int) ≤ k) (h : ProofA w S v p) :
    Calls Try.prog 10 #[v, .int .i64 k] w fun e w' => e = .returned (.int .i64 (k - szP p)) ∧ Up w w' :=
  (szProof_ok w S S S v p k hk (by unfold szP at hl; omega) h).mono fun _ _ ⟨he, hg⟩ => ⟨he.trans (ret_int (by unfold szP; omega)), hg⟩
theorem szProofA_no (w : World) (S : Nat → Prop) (v : Value) (p : ProofM) (k : Int) (hk : 0 ≤ k ∧ k ≤ 1048576) (hl : k < (szP p : Int)) (h : ProofA w S v p) :
    Calls Try.prog 10 #[v, .int .i64 k] w fun e w' => e = .returned (.int .i64 (-1)) ∧ Up w w' :=
  szProof_no w S S S v p k hk (by unfold szP at hl; omega) h
theorem toProofA_any (w : World) (S : Nat → Prop) (v : Value) (p : ProofM) (hb : szP p ≤ 1048576) (h : ProofA w S v p) :
    Calls Try.prog 12 #[v] w fun e w' => ∃ u, e = .returned u ∧ ProofA w' (New w.heap.size w'.heap.size) u p ∧ Up w w' :=
  (toProof_any w S S S v p (by unfold szP at hb; omega) h).mono fun _ _ ⟨u, M, H, L, he, ha, hr, hg⟩ => ⟨u, he, hr.mono (fun b _ h => ha.1 b (.inl h)) (fun b _ h => ha.1 b (.inr (.inl h))) (fun b _ h => ha.1 b (.inr (.inr h))), hg⟩
theorem eqProofA_same (w : World) (S T : Nat → Prop) (v u : Value) (p : ProofM) (h : ProofA w S v p) (h2 : ProofA w T u p) :
    Calls Try.prog 14 #[v, u] w fun e w' => e = .returned (.bool true) ∧ Up w w' := eqProof_same w S S S T T T v u p h h2
theorem sSameProof_A (w : World) (S : Nat → Prop) (v : Value) (a : ProofM) (h : ProofA w S v a) (T : Nat → Prop) (u : Value) (b : ProofM) (h2 : ProofA w T u b) :
    Calls Try.prog 11 #[v, u] w fun e w' => e = .returned (.bool (sameP a b)) ∧ Up w w' := sSameProof_any w S S S T T T v u a b h h2
theorem pSameProof_A (w : World) (S : Nat → Prop) (v : Value) (a : ProofM) (h : ProofA w S v a) (T : Nat → Prop) (u : Value) (b : ProofM) (h2 : ProofA w T u b) :
    Calls Try.prog 13 #[v, u] w fun e w' => e = .returned (.bool (sameP a b)) ∧ Up w w' := pSameProof_any w S S S T T T v u a b h h2
end Go.Proofs.Ytjgdcjhmfbefdaa
