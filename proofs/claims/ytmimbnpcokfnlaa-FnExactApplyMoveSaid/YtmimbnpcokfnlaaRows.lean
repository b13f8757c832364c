/-
  No cell of these rows narrows 'for every input' (looked for: loops, veiled, ifaces, maps, wideKeys, modest, calm, conditions, laid).
  DERIVED. THE GIVEN ROWS OF THIS SEAT. 8 by the template 'for every input the law returns true; each argument reads behind the call as it read before'; 0 by the template 'total and deterministic' (their statements: YtmimbnpcokfnlaaTotals.lean).
  GIVEN WITH THE SEED: the statements are not yours to turn. If you find one false, say at which input.
  Laid BY PROGRAM, IN A SANDBOX (cutbox-rows.mjs): the forced cells as the released guide's own fill.sh prints them over the translation 5c4b0a58688d6fd8… (all of the seat's roots in one cut). By AI agents, Wed Nov 11 2026. No macro, syntax, notation, axiom, sorry.
-/
import Derived.Test.YtmimbnpcokfnlaaChecked
import GoSem.Claim
import GoSem.ClaimJoined
import GoSem.ClaimMapViews
import Derived.JoinedTies
import Derived.KernelRfl
namespace Go.Proofs.Ytmimbnpcokfnlaa
/- THE CELL 'sum', in the pinned program and in every row, IS THE sha256 OF THE DUMP (.gsa) THAT YtmimbnpcokfnlaaProg.lean LOADS. Nothing in Lean hashes anything: it is a label: what it is worth is what the hold of that sum in a sandbox is worth. -/
noncomputable def Try.pinned : Pinned := { name := "ytmimbnpcokfnlaa", sum := "5c4b0a58688d6fd8475349b86f86eb5c31fe8af9c2c08197b11b947dea737121", checked := Try.checked }
namespace Rows
def none {H : Type} : Left H := { results := [], args := [] }

/-- 'laws.FnExactApplyMove': WHATEVER THE INPUT: true; the input reads as it did. -/
def fnExactApplyMoveSpec : ChangeSpec := { name := "fnExactApplyMove", fn := fun _ => fun
  | [d1, d2] => { results := [.lit (.bool true)], args := [d1, d2] }
  | _ => none }
def fnExactApplyMoveRow : OpenClaim := { program := "ytmimbnpcokfnlaa", sum := "5c4b0a58688d6fd8475349b86f86eb5c31fe8af9c2c08197b11b947dea737121", func := "loop.example/g00856/laws.FnExactApplyMove", spec := "fnExactApplyMove", apart := false }
def FnExactApplyMoveSaid : Prop := fnExactApplyMoveRow.holds Try.pinned (OpenSpec.ofChange fnExactApplyMoveSpec)

/-- ITS FALSE NEIGHBOUR: 'it returns false'. Refute it at one input. -/
def fnExactApplyMoveWrong : ChangeSpec := { name := "fnExactApplyMove", fn := fun _ => fun
  | [d1, d2] => { results := [.lit (.bool false)], args := [d1, d2] }
  | _ => none }
def FnExactApplyMoveWrongFalsely : Prop := fnExactApplyMoveRow.holds Try.pinned (OpenSpec.ofChange fnExactApplyMoveWrong)

/-- 'laws.FnExactOpCounts': WHATEVER THE INPUT: true; the input reads as it did. -/
def fnExactOpCountsSpec : ChangeSpec := { name := "fnExactOpCounts", fn := fun _ => fun
  | [d] => { results := [.lit (.bool true)], args := [d] }
  | _ => none }
def fnExactOpCountsRow : OpenClaim := { program := "ytmimbnpcokfnlaa", sum := "5c4b0a58688d6fd8475349b86f86eb5c31fe8af9c2c08197b11b947dea737121", func := "loop.example/g00856/laws.FnExactOpCounts", spec := "fnExactOpCounts", apart := false }
def FnExactOpCountsSaid : Prop := fnExactOpCountsRow.holds Try.pinned (OpenSpec.ofChange fnExactOpCountsSpec)

/-- ITS FALSE NEIGHBOUR: 'it returns false'. Refute it at one input. -/
def fnExactOpCountsWrong : ChangeSpec := { name := "fnExactOpCounts", fn := fun _ => fun
  | [d] => { results := [.lit (.bool false)], args := [d] }
  | _ => none }
def FnExactOpCountsWrongFalsely : Prop := fnExactOpCountsRow.holds Try.pinned (OpenSpec.ofChange fnExactOpCountsWrong)

/-- 'laws.FnExactColumnBraid': WHATEVER THE INPUT: true; the input reads as it did. -/
def fnExactColumnBraidSpec : ChangeSpec := { name := "fnExactColumnBraid", fn := fun _ => fun
  | [d1, d2] => { results := [.lit (.bool true)], args := [d1, d2] }
  | _ => none }
def fnExactColumnBraidRow : OpenClaim := { program := "ytmimbnpcokfnlaa", sum := "5c4b0a58688d6fd8475349b86f86eb5c31fe8af9c2c08197b11b947dea737121", func := "loop.example/g00856/laws.FnExactColumnBraid", spec := "fnExactColumnBraid", unfollowed := true, recurses := true, apart := false }
def FnExactColumnBraidSaid : Prop := fnExactColumnBraidRow.holds Try.pinned (OpenSpec.ofChange fnExactColumnBraidSpec)

/-- ITS FALSE NEIGHBOUR: 'it returns false'. Refute it at one input. -/
def fnExactColumnBraidWrong : ChangeSpec := { name := "fnExactColumnBraid", fn := fun _ => fun
  | [d1, d2] => { results := [.lit (.bool false)], args := [d1, d2] }
  | _ => none }
def FnExactColumnBraidWrongFalsely : Prop := fnExactColumnBraidRow.holds Try.pinned (OpenSpec.ofChange fnExactColumnBraidWrong)

/-- 'laws.FnExactSameProof': WHATEVER THE INPUT: true; the input reads as it did. -/
def fnExactSameProofSpec : ChangeSpec := { name := "fnExactSameProof", fn := fun _ => fun
  | [d1, d2] => { results := [.lit (.bool true)], args := [d1, d2] }
  | _ => none }
def fnExactSameProofRow : OpenClaim := { program := "ytmimbnpcokfnlaa", sum := "5c4b0a58688d6fd8475349b86f86eb5c31fe8af9c2c08197b11b947dea737121", func := "loop.example/g00856/laws.FnExactSameProof", spec := "fnExactSameProof", unfollowed := true, recurses := true, apart := false }
def FnExactSameProofSaid : Prop := fnExactSameProofRow.holds Try.pinned (OpenSpec.ofChange fnExactSameProofSpec)

/-- ITS FALSE NEIGHBOUR: 'it returns false'. Refute it at one input. -/
def fnExactSameProofWrong : ChangeSpec := { name := "fnExactSameProof", fn := fun _ => fun
  | [d1, d2] => { results := [.lit (.bool false)], args := [d1, d2] }
  | _ => none }
def FnExactSameProofWrongFalsely : Prop := fnExactSameProofRow.holds Try.pinned (OpenSpec.ofChange fnExactSameProofWrong)

/-- 'laws.FnLayout': WHATEVER THE INPUT: true; the input reads as it did. -/
def fnLayoutSpec : ChangeSpec := { name := "fnLayout", fn := fun _ => fun
  | [d] => { results := [.lit (.bool true)], args := [d] }
  | _ => none }
def fnLayoutRow : OpenClaim := { program := "ytmimbnpcokfnlaa", sum := "5c4b0a58688d6fd8475349b86f86eb5c31fe8af9c2c08197b11b947dea737121", func := "loop.example/g00856/laws.FnLayout", spec := "fnLayout", unfollowed := true, recurses := true, apart := false }
def FnLayoutSaid : Prop := fnLayoutRow.holds Try.pinned (OpenSpec.ofChange fnLayoutSpec)

/-- ITS FALSE NEIGHBOUR: 'it returns false'. Refute it at one input. -/
def fnLayoutWrong : ChangeSpec := { name := "fnLayout", fn := fun _ => fun
  | [d] => { results := [.lit (.bool false)], args := [d] }
  | _ => none }
def FnLayoutWrongFalsely : Prop := fnLayoutRow.holds Try.pinned (OpenSpec.ofChange fnLayoutWrong)

/-- 'laws.FnExactLayoutWidth': WHATEVER THE INPUT: true; the input reads as it did. -/
def fnExactLayoutWidthSpec : ChangeSpec := { name := "fnExactLayoutWidth", fn := fun _ => fun
  | [d] => { results := [.lit (.bool true)], args := [d] }
  | _ => none }
def fnExactLayoutWidthRow : OpenClaim := { program := "ytmimbnpcokfnlaa", sum := "5c4b0a58688d6fd8475349b86f86eb5c31fe8af9c2c08197b11b947dea737121", func := "loop.example/g00856/laws.FnExactLayoutWidth", spec := "fnExactLayoutWidth", unfollowed := true, recurses := true, apart := false }
def FnExactLayoutWidthSaid : Prop := fnExactLayoutWidthRow.holds Try.pinned (OpenSpec.ofChange fnExactLayoutWidthSpec)

/-- ITS FALSE NEIGHBOUR: 'it returns false'. Refute it at one input. -/
def fnExactLayoutWidthWrong : ChangeSpec := { name := "fnExactLayoutWidth", fn := fun _ => fun
  | [d] => { results := [.lit (.bool false)], args := [d] }
  | _ => none }
def FnExactLayoutWidthWrongFalsely : Prop := fnExactLayoutWidthRow.holds Try.pinned (OpenSpec.ofChange fnExactLayoutWidthWrong)

/-- 'laws.FnExactCarriersOf': WHATEVER THE INPUT: true; the input reads as it did. -/
def fnExactCarriersOfSpec : ChangeSpec := { name := "fnExactCarriersOf", fn := fun _ => fun
  | [d] => { results := [.lit (.bool true)], args := [d] }
  | _ => none }
def fnExactCarriersOfRow : OpenClaim := { program := "ytmimbnpcokfnlaa", sum := "5c4b0a58688d6fd8475349b86f86eb5c31fe8af9c2c08197b11b947dea737121", func := "loop.example/g00856/laws.FnExactCarriersOf", spec := "fnExactCarriersOf", unfollowed := true, recurses := true, apart := false }
def FnExactCarriersOfSaid : Prop := fnExactCarriersOfRow.holds Try.pinned (OpenSpec.ofChange fnExactCarriersOfSpec)

/-- ITS FALSE NEIGHBOUR: 'it returns false'. Refute it at one input. -/
def fnExactCarriersOfWrong : ChangeSpec := { name := "fnExactCarriersOf", fn := fun _ => fun
  | [d] => { results := [.lit (.bool false)], args := [d] }
  | _ => none }
def FnExactCarriersOfWrongFalsely : Prop := fnExactCarriersOfRow.holds Try.pinned (OpenSpec.ofChange fnExactCarriersOfWrong)

/-- 'laws.FnExactRowOps': WHATEVER THE INPUT: true; the input reads as it did. -/
def fnExactRowOpsSpec : ChangeSpec := { name := "fnExactRowOps", fn := fun _ => fun
  | [d1, d2, d3] => { results := [.lit (.bool true)], args := [d1, d2, d3] }
  | _ => none }
def fnExactRowOpsRow : OpenClaim := { program := "ytmimbnpcokfnlaa", sum := "5c4b0a58688d6fd8475349b86f86eb5c31fe8af9c2c08197b11b947dea737121", func := "loop.example/g00856/laws.FnExactRowOps", spec := "fnExactRowOps", unfollowed := true, recurses := true, apart := false }
def FnExactRowOpsSaid : Prop := fnExactRowOpsRow.holds Try.pinned (OpenSpec.ofChange fnExactRowOpsSpec)

/-- ITS FALSE NEIGHBOUR: 'it returns false'. Refute it at one input. -/
def fnExactRowOpsWrong : ChangeSpec := { name := "fnExactRowOps", fn := fun _ => fun
  | [d1, d2, d3] => { results := [.lit (.bool false)], args := [d1, d2, d3] }
  | _ => none }
def FnExactRowOpsWrongFalsely : Prop := fnExactRowOpsRow.holds Try.pinned (OpenSpec.ofChange fnExactRowOpsWrong)

/- THE SECOND FORM. 'bulk': how many values and letters a reading holds, each counted each time it is reached (what is shared counts as often as it is met; a slice's spare places count too). A statement '..UptoSaid' is the law's where the arguments, and the package variables that the reading takes, are together of bulk at most 1048576: NARROWER than '..Said'. Prove '..Said' where nothing that the law and all that it calls make is longer than what came in: it says more and counts as full. Else prove '..UptoSaid'. A law counts once. -/
mutual
def uptoBulk {H : Type} : DataW H → Nat
  | .lit (.string bytes) => bytes.length + 1
  | .lit _ => 1
  | .nil => 1
  | .ptr d => uptoBulk d + 1
  | .slice elems spare => uptoBulkAll elems + uptoBulkAll spare + 1
  | .agg parts => uptoBulkAll parts + 1
  | .iface _ d => uptoBulk d + 1
  | .map entries => uptoBulkEntries entries + 1
  | .held _ => 1
def uptoBulkAll {H : Type} : List (DataW H) → Nat
  | [] => 0
  | d :: r => uptoBulk d + uptoBulkAll r
def uptoBulkEntries {H : Type} : List (Lit × DataW H) → Nat
  | [] => 0
  | x :: r => uptoBulkEntry x + uptoBulkEntries r
def uptoBulkEntry {H : Type} : Lit × DataW H → Nat
  | (.string bytes, d) => bytes.length + uptoBulk d + 1
  | (_, d) => uptoBulk d + 1
 end
def uptoSmall : (H : Type) → List (DataW H) → Bool := fun _ ds => decide (uptoBulkAll ds ≤ 1048576)
def OpenSpec.upto (s : _root_.Go.ChangeSpec) : _root_.Go.OpenSpec := { _root_.Go.OpenSpec.ofChange s with cond := some uptoSmall }

/-- 'laws.FnExactApplyMove', WHERE WHAT IT READS IS OF BULK AT MOST 1048576: true; the input reads as it did. -/
def fnExactApplyMoveUptoRow : OpenClaim := { program := "ytmimbnpcokfnlaa", sum := "5c4b0a58688d6fd8475349b86f86eb5c31fe8af9c2c08197b11b947dea737121", func := "loop.example/g00856/laws.FnExactApplyMove", spec := "fnExactApplyMove", apart := false, narrowed := true }
def FnExactApplyMoveUptoSaid : Prop := fnExactApplyMoveUptoRow.holds Try.pinned (OpenSpec.upto fnExactApplyMoveSpec)

/-- 'laws.FnExactOpCounts', WHERE WHAT IT READS IS OF BULK AT MOST 1048576: true; the input reads as it did. -/
def fnExactOpCountsUptoRow : OpenClaim := { program := "ytmimbnpcokfnlaa", sum := "5c4b0a58688d6fd8475349b86f86eb5c31fe8af9c2c08197b11b947dea737121", func := "loop.example/g00856/laws.FnExactOpCounts", spec := "fnExactOpCounts", apart := false, narrowed := true }
def FnExactOpCountsUptoSaid : Prop := fnExactOpCountsUptoRow.holds Try.pinned (OpenSpec.upto fnExactOpCountsSpec)

/-- 'laws.FnExactColumnBraid', WHERE WHAT IT READS IS OF BULK AT MOST 1048576: true; the input reads as it did. -/
def fnExactColumnBraidUptoRow : OpenClaim := { program := "ytmimbnpcokfnlaa", sum := "5c4b0a58688d6fd8475349b86f86eb5c31fe8af9c2c08197b11b947dea737121", func := "loop.example/g00856/laws.FnExactColumnBraid", spec := "fnExactColumnBraid", unfollowed := true, recurses := true, apart := false, narrowed := true }
def FnExactColumnBraidUptoSaid : Prop := fnExactColumnBraidUptoRow.holds Try.pinned (OpenSpec.upto fnExactColumnBraidSpec)

/-- 'laws.FnExactSameProof', WHERE WHAT IT READS IS OF BULK AT MOST 1048576: true; the input reads as it did. -/
def fnExactSameProofUptoRow : OpenClaim := { program := "ytmimbnpcokfnlaa", sum := "5c4b0a58688d6fd8475349b86f86eb5c31fe8af9c2c08197b11b947dea737121", func := "loop.example/g00856/laws.FnExactSameProof", spec := "fnExactSameProof", unfollowed := true, recurses := true, apart := false, narrowed := true }
def FnExactSameProofUptoSaid : Prop := fnExactSameProofUptoRow.holds Try.pinned (OpenSpec.upto fnExactSameProofSpec)

/-- 'laws.FnLayout', WHERE WHAT IT READS IS OF BULK AT MOST 1048576: true; the input reads as it did. -/
def fnLayoutUptoRow : OpenClaim := { program := "ytmimbnpcokfnlaa", sum := "5c4b0a58688d6fd8475349b86f86eb5c31fe8af9c2c08197b11b947dea737121", func := "loop.example/g00856/laws.FnLayout", spec := "fnLayout", unfollowed := true, recurses := true, apart := false, narrowed := true }
def FnLayoutUptoSaid : Prop := fnLayoutUptoRow.holds Try.pinned (OpenSpec.upto fnLayoutSpec)

/-- 'laws.FnExactLayoutWidth', WHERE WHAT IT READS IS OF BULK AT MOST 1048576: true; the input reads as it did. -/
def fnExactLayoutWidthUptoRow : OpenClaim := { program := "ytmimbnpcokfnlaa", sum := "5c4b0a58688d6fd8475349b86f86eb5c31fe8af9c2c08197b11b947dea737121", func := "loop.example/g00856/laws.FnExactLayoutWidth", spec := "fnExactLayoutWidth", unfollowed := true, recurses := true, apart := false, narrowed := true }
def FnExactLayoutWidthUptoSaid : Prop := fnExactLayoutWidthUptoRow.holds Try.pinned (OpenSpec.upto fnExactLayoutWidthSpec)

/-- 'laws.FnExactCarriersOf', WHERE WHAT IT READS IS OF BULK AT MOST 1048576: true; the input reads as it did. -/
def fnExactCarriersOfUptoRow : OpenClaim := { program := "ytmimbnpcokfnlaa", sum := "5c4b0a58688d6fd8475349b86f86eb5c31fe8af9c2c08197b11b947dea737121", func := "loop.example/g00856/laws.FnExactCarriersOf", spec := "fnExactCarriersOf", unfollowed := true, recurses := true, apart := false, narrowed := true }
def FnExactCarriersOfUptoSaid : Prop := fnExactCarriersOfUptoRow.holds Try.pinned (OpenSpec.upto fnExactCarriersOfSpec)

/-- 'laws.FnExactRowOps', WHERE WHAT IT READS IS OF BULK AT MOST 1048576: true; the input reads as it did. -/
def fnExactRowOpsUptoRow : OpenClaim := { program := "ytmimbnpcokfnlaa", sum := "5c4b0a58688d6fd8475349b86f86eb5c31fe8af9c2c08197b11b947dea737121", func := "loop.example/g00856/laws.FnExactRowOps", spec := "fnExactRowOps", unfollowed := true, recurses := true, apart := false, narrowed := true }
def FnExactRowOpsUptoSaid : Prop := fnExactRowOpsUptoRow.holds Try.pinned (OpenSpec.upto fnExactRowOpsSpec)

end Rows
end Go.Proofs.Ytmimbnpcokfnlaa
