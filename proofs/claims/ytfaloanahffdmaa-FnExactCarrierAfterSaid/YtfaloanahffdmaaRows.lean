/-
  No cell of these rows narrows 'for every input' (looked for: loops, veiled, ifaces, maps, wideKeys, modest, calm, conditions, laid).
  DERIVED. THE GIVEN ROWS OF THIS SEAT. 14 by the template 'for every input the law returns true; each argument reads behind the call as it read before'; 0 by the template 'total and deterministic' (their statements: YtfaloanahffdmaaTotals.lean).
  GIVEN WITH THE SEED: the statements are not yours to turn. If you find one false, say at which input.
  Laid BY PROGRAM, IN A SANDBOX (cutbox-rows.mjs): the forced cells as the released guide's own fill.sh prints them over the translation 79a62b09e763ffb0… (all of the seat's roots in one cut). By AI agents, Wed Nov 11 2026. No macro, syntax, notation, axiom, sorry.
-/
import Derived.Test.YtfaloanahffdmaaChecked
import GoSem.Claim
import GoSem.ClaimJoined
import GoSem.ClaimMapViews
import Derived.JoinedTies
import Derived.KernelRfl
namespace Go.Proofs.Ytfaloanahffdmaa
/- THE CELL 'sum', in the pinned program and in every row, IS THE sha256 OF THE DUMP (.gsa) THAT YtfaloanahffdmaaProg.lean LOADS. Nothing in Lean hashes anything: it is a label: what it is worth is what the hold of that sum in a sandbox is worth. -/
noncomputable def Try.pinned : Pinned := { name := "ytfaloanahffdmaa", sum := "79a62b09e763ffb0cf6805b53686f8d84054a5390c97ad6282cf6b6606be23a4", checked := Try.checked }
namespace Rows
def none {H : Type} : Left H := { results := [], args := [] }

/-- 'laws.FnExactApplyMove': WHATEVER THE INPUT: true; the input reads as it did. -/
def fnExactApplyMoveSpec : ChangeSpec := { name := "fnExactApplyMove", fn := fun _ => fun
  | [d1, d2] => { results := [.lit (.bool true)], args := [d1, d2] }
  | _ => none }
def fnExactApplyMoveRow : OpenClaim := { program := "ytfaloanahffdmaa", sum := "79a62b09e763ffb0cf6805b53686f8d84054a5390c97ad6282cf6b6606be23a4", func := "loop.example/g00856/laws.FnExactApplyMove", spec := "fnExactApplyMove", apart := false }
def FnExactApplyMoveSaid : Prop := fnExactApplyMoveRow.holds Try.pinned (OpenSpec.ofChange fnExactApplyMoveSpec)

/-- ITS FALSE NEIGHBOUR: 'it returns false'. Refute it at one input. -/
def fnExactApplyMoveWrong : ChangeSpec := { name := "fnExactApplyMove", fn := fun _ => fun
  | [d1, d2] => { results := [.lit (.bool false)], args := [d1, d2] }
  | _ => none }
def FnExactApplyMoveWrongFalsely : Prop := fnExactApplyMoveRow.holds Try.pinned (OpenSpec.ofChange fnExactApplyMoveWrong)

/-- 'laws.FnExactOpCounts': WHATEVER THE INPUT: true; the input reads as it did. -/
def fnExactOpCountsSpec : ChangeSpec := { name := "fnExactOpCounts", fn := fun _ => fun
  | [d] => { results := [.lit (.bool true)], args := [d] }
  | _ => none }
def fnExactOpCountsRow : OpenClaim := { program := "ytfaloanahffdmaa", sum := "79a62b09e763ffb0cf6805b53686f8d84054a5390c97ad6282cf6b6606be23a4", func := "loop.example/g00856/laws.FnExactOpCounts", spec := "fnExactOpCounts", apart := false }
def FnExactOpCountsSaid : Prop := fnExactOpCountsRow.holds Try.pinned (OpenSpec.ofChange fnExactOpCountsSpec)

/-- ITS FALSE NEIGHBOUR: 'it returns false'. Refute it at one input. -/
def fnExactOpCountsWrong : ChangeSpec := { name := "fnExactOpCounts", fn := fun _ => fun
  | [d] => { results := [.lit (.bool false)], args := [d] }
  | _ => none }
def FnExactOpCountsWrongFalsely : Prop := fnExactOpCountsRow.holds Try.pinned (OpenSpec.ofChange fnExactOpCountsWrong)

/-- 'laws.FnExactColumnBraid': WHATEVER THE INPUT: true; the input reads as it did. -/
def fnExactColumnBraidSpec : ChangeSpec := { name := "fnExactColumnBraid", fn := fun _ => fun
  | [d1, d2] => { results := [.lit (.bool true)], args := [d1, d2] }
  | _ => none }
def fnExactColumnBraidRow : OpenClaim := { program := "ytfaloanahffdmaa", sum := "79a62b09e763ffb0cf6805b53686f8d84054a5390c97ad6282cf6b6606be23a4", func := "loop.example/g00856/laws.FnExactColumnBraid", spec := "fnExactColumnBraid", unfollowed := true, recurses := true, apart := false }
def FnExactColumnBraidSaid : Prop := fnExactColumnBraidRow.holds Try.pinned (OpenSpec.ofChange fnExactColumnBraidSpec)

/-- ITS FALSE NEIGHBOUR: 'it returns false'. Refute it at one input. -/
def fnExactColumnBraidWrong : ChangeSpec := { name := "fnExactColumnBraid", fn := fun _ => fun
  | [d1, d2] => { results := [.lit (.bool false)], args := [d1, d2] }
  | _ => none }
def FnExactColumnBraidWrongFalsely : Prop := fnExactColumnBraidRow.holds Try.pinned (OpenSpec.ofChange fnExactColumnBraidWrong)

/-- 'laws.FnExactNewColumns': WHATEVER THE INPUT: true; the input reads as it did. -/
def fnExactNewColumnsSpec : ChangeSpec := { name := "fnExactNewColumns", fn := fun _ => fun
  | [d] => { results := [.lit (.bool true)], args := [d] }
  | _ => none }
def fnExactNewColumnsRow : OpenClaim := { program := "ytfaloanahffdmaa", sum := "79a62b09e763ffb0cf6805b53686f8d84054a5390c97ad6282cf6b6606be23a4", func := "loop.example/g00856/laws.FnExactNewColumns", spec := "fnExactNewColumns", unfollowed := true, recurses := true, apart := false }
def FnExactNewColumnsSaid : Prop := fnExactNewColumnsRow.holds Try.pinned (OpenSpec.ofChange fnExactNewColumnsSpec)

/-- ITS FALSE NEIGHBOUR: 'it returns false'. Refute it at one input. -/
def fnExactNewColumnsWrong : ChangeSpec := { name := "fnExactNewColumns", fn := fun _ => fun
  | [d] => { results := [.lit (.bool false)], args := [d] }
  | _ => none }
def FnExactNewColumnsWrongFalsely : Prop := fnExactNewColumnsRow.holds Try.pinned (OpenSpec.ofChange fnExactNewColumnsWrong)

/-- 'laws.FnExactRowResults': WHATEVER THE INPUT: true; the input reads as it did. -/
def fnExactRowResultsSpec : ChangeSpec := { name := "fnExactRowResults", fn := fun _ => fun
  | [d] => { results := [.lit (.bool true)], args := [d] }
  | _ => none }
def fnExactRowResultsRow : OpenClaim := { program := "ytfaloanahffdmaa", sum := "79a62b09e763ffb0cf6805b53686f8d84054a5390c97ad6282cf6b6606be23a4", func := "loop.example/g00856/laws.FnExactRowResults", spec := "fnExactRowResults", unfollowed := true, recurses := true, apart := false }
def FnExactRowResultsSaid : Prop := fnExactRowResultsRow.holds Try.pinned (OpenSpec.ofChange fnExactRowResultsSpec)

/-- ITS FALSE NEIGHBOUR: 'it returns false'. Refute it at one input. -/
def fnExactRowResultsWrong : ChangeSpec := { name := "fnExactRowResults", fn := fun _ => fun
  | [d] => { results := [.lit (.bool false)], args := [d] }
  | _ => none }
def FnExactRowResultsWrongFalsely : Prop := fnExactRowResultsRow.holds Try.pinned (OpenSpec.ofChange fnExactRowResultsWrong)

/-- 'laws.FnExactRowSources': WHATEVER THE INPUT: true; the input reads as it did. -/
def fnExactRowSourcesSpec : ChangeSpec := { name := "fnExactRowSources", fn := fun _ => fun
  | [d] => { results := [.lit (.bool true)], args := [d] }
  | _ => none }
def fnExactRowSourcesRow : OpenClaim := { program := "ytfaloanahffdmaa", sum := "79a62b09e763ffb0cf6805b53686f8d84054a5390c97ad6282cf6b6606be23a4", func := "loop.example/g00856/laws.FnExactRowSources", spec := "fnExactRowSources", unfollowed := true, recurses := true, apart := false }
def FnExactRowSourcesSaid : Prop := fnExactRowSourcesRow.holds Try.pinned (OpenSpec.ofChange fnExactRowSourcesSpec)

/-- ITS FALSE NEIGHBOUR: 'it returns false'. Refute it at one input. -/
def fnExactRowSourcesWrong : ChangeSpec := { name := "fnExactRowSources", fn := fun _ => fun
  | [d] => { results := [.lit (.bool false)], args := [d] }
  | _ => none }
def FnExactRowSourcesWrongFalsely : Prop := fnExactRowSourcesRow.holds Try.pinned (OpenSpec.ofChange fnExactRowSourcesWrong)

/-- 'laws.FnLayout': WHATEVER THE INPUT: true; the input reads as it did. -/
def fnLayoutSpec : ChangeSpec := { name := "fnLayout", fn := fun _ => fun
  | [d] => { results := [.lit (.bool true)], args := [d] }
  | _ => none }
def fnLayoutRow : OpenClaim := { program := "ytfaloanahffdmaa", sum := "79a62b09e763ffb0cf6805b53686f8d84054a5390c97ad6282cf6b6606be23a4", func := "loop.example/g00856/laws.FnLayout", spec := "fnLayout", unfollowed := true, recurses := true, apart := false }
def FnLayoutSaid : Prop := fnLayoutRow.holds Try.pinned (OpenSpec.ofChange fnLayoutSpec)

/-- ITS FALSE NEIGHBOUR: 'it returns false'. Refute it at one input. -/
def fnLayoutWrong : ChangeSpec := { name := "fnLayout", fn := fun _ => fun
  | [d] => { results := [.lit (.bool false)], args := [d] }
  | _ => none }
def FnLayoutWrongFalsely : Prop := fnLayoutRow.holds Try.pinned (OpenSpec.ofChange fnLayoutWrong)

/-- 'laws.FnExactRowTargets': WHATEVER THE INPUT: true; the input reads as it did. -/
def fnExactRowTargetsSpec : ChangeSpec := { name := "fnExactRowTargets", fn := fun _ => fun
  | [d] => { results := [.lit (.bool true)], args := [d] }
  | _ => none }
def fnExactRowTargetsRow : OpenClaim := { program := "ytfaloanahffdmaa", sum := "79a62b09e763ffb0cf6805b53686f8d84054a5390c97ad6282cf6b6606be23a4", func := "loop.example/g00856/laws.FnExactRowTargets", spec := "fnExactRowTargets", unfollowed := true, recurses := true, apart := false }
def FnExactRowTargetsSaid : Prop := fnExactRowTargetsRow.holds Try.pinned (OpenSpec.ofChange fnExactRowTargetsSpec)

/-- ITS FALSE NEIGHBOUR: 'it returns false'. Refute it at one input. -/
def fnExactRowTargetsWrong : ChangeSpec := { name := "fnExactRowTargets", fn := fun _ => fun
  | [d] => { results := [.lit (.bool false)], args := [d] }
  | _ => none }
def FnExactRowTargetsWrongFalsely : Prop := fnExactRowTargetsRow.holds Try.pinned (OpenSpec.ofChange fnExactRowTargetsWrong)

/-- 'laws.FnExactCrossOps': WHATEVER THE INPUT: true; the input reads as it did. -/
def fnExactCrossOpsSpec : ChangeSpec := { name := "fnExactCrossOps", fn := fun _ => fun
  | [d1, d2] => { results := [.lit (.bool true)], args := [d1, d2] }
  | _ => none }
def fnExactCrossOpsRow : OpenClaim := { program := "ytfaloanahffdmaa", sum := "79a62b09e763ffb0cf6805b53686f8d84054a5390c97ad6282cf6b6606be23a4", func := "loop.example/g00856/laws.FnExactCrossOps", spec := "fnExactCrossOps", unfollowed := true, recurses := true, apart := false }
def FnExactCrossOpsSaid : Prop := fnExactCrossOpsRow.holds Try.pinned (OpenSpec.ofChange fnExactCrossOpsSpec)

/-- ITS FALSE NEIGHBOUR: 'it returns false'. Refute it at one input. -/
def fnExactCrossOpsWrong : ChangeSpec := { name := "fnExactCrossOps", fn := fun _ => fun
  | [d1, d2] => { results := [.lit (.bool false)], args := [d1, d2] }
  | _ => none }
def FnExactCrossOpsWrongFalsely : Prop := fnExactCrossOpsRow.holds Try.pinned (OpenSpec.ofChange fnExactCrossOpsWrong)

/-- 'laws.FnExactSameProof': WHATEVER THE INPUT: true; the input reads as it did. -/
def fnExactSameProofSpec : ChangeSpec := { name := "fnExactSameProof", fn := fun _ => fun
  | [d1, d2] => { results := [.lit (.bool true)], args := [d1, d2] }
  | _ => none }
def fnExactSameProofRow : OpenClaim := { program := "ytfaloanahffdmaa", sum := "79a62b09e763ffb0cf6805b53686f8d84054a5390c97ad6282cf6b6606be23a4", func := "loop.example/g00856/laws.FnExactSameProof", spec := "fnExactSameProof", unfollowed := true, recurses := true, apart := false }
def FnExactSameProofSaid : Prop := fnExactSameProofRow.holds Try.pinned (OpenSpec.ofChange fnExactSameProofSpec)

/-- ITS FALSE NEIGHBOUR: 'it returns false'. Refute it at one input. -/
def fnExactSameProofWrong : ChangeSpec := { name := "fnExactSameProof", fn := fun _ => fun
  | [d1, d2] => { results := [.lit (.bool false)], args := [d1, d2] }
  | _ => none }
def FnExactSameProofWrongFalsely : Prop := fnExactSameProofRow.holds Try.pinned (OpenSpec.ofChange fnExactSameProofWrong)

/-- 'laws.FnExactCrossingOps': WHATEVER THE INPUT: true; the input reads as it did. -/
def fnExactCrossingOpsSpec : ChangeSpec := { name := "fnExactCrossingOps", fn := fun _ => fun
  | [d] => { results := [.lit (.bool true)], args := [d] }
  | _ => none }
def fnExactCrossingOpsRow : OpenClaim := { program := "ytfaloanahffdmaa", sum := "79a62b09e763ffb0cf6805b53686f8d84054a5390c97ad6282cf6b6606be23a4", func := "loop.example/g00856/laws.FnExactCrossingOps", spec := "fnExactCrossingOps", unfollowed := true, recurses := true, apart := false }
def FnExactCrossingOpsSaid : Prop := fnExactCrossingOpsRow.holds Try.pinned (OpenSpec.ofChange fnExactCrossingOpsSpec)

/-- ITS FALSE NEIGHBOUR: 'it returns false'. Refute it at one input. -/
def fnExactCrossingOpsWrong : ChangeSpec := { name := "fnExactCrossingOps", fn := fun _ => fun
  | [d] => { results := [.lit (.bool false)], args := [d] }
  | _ => none }
def FnExactCrossingOpsWrongFalsely : Prop := fnExactCrossingOpsRow.holds Try.pinned (OpenSpec.ofChange fnExactCrossingOpsWrong)

/-- 'laws.FnExactIsAtRest': WHATEVER THE INPUT: true; the input reads as it did. -/
def fnExactIsAtRestSpec : ChangeSpec := { name := "fnExactIsAtRest", fn := fun _ => fun
  | [d1, d2] => { results := [.lit (.bool true)], args := [d1, d2] }
  | _ => none }
def fnExactIsAtRestRow : OpenClaim := { program := "ytfaloanahffdmaa", sum := "79a62b09e763ffb0cf6805b53686f8d84054a5390c97ad6282cf6b6606be23a4", func := "loop.example/g00856/laws.FnExactIsAtRest", spec := "fnExactIsAtRest", apart := false }
def FnExactIsAtRestSaid : Prop := fnExactIsAtRestRow.holds Try.pinned (OpenSpec.ofChange fnExactIsAtRestSpec)

/-- ITS FALSE NEIGHBOUR: 'it returns false'. Refute it at one input. -/
def fnExactIsAtRestWrong : ChangeSpec := { name := "fnExactIsAtRest", fn := fun _ => fun
  | [d1, d2] => { results := [.lit (.bool false)], args := [d1, d2] }
  | _ => none }
def FnExactIsAtRestWrongFalsely : Prop := fnExactIsAtRestRow.holds Try.pinned (OpenSpec.ofChange fnExactIsAtRestWrong)

/-- 'laws.FnExactLayoutWidth': WHATEVER THE INPUT: true; the input reads as it did. -/
def fnExactLayoutWidthSpec : ChangeSpec := { name := "fnExactLayoutWidth", fn := fun _ => fun
  | [d] => { results := [.lit (.bool true)], args := [d] }
  | _ => none }
def fnExactLayoutWidthRow : OpenClaim := { program := "ytfaloanahffdmaa", sum := "79a62b09e763ffb0cf6805b53686f8d84054a5390c97ad6282cf6b6606be23a4", func := "loop.example/g00856/laws.FnExactLayoutWidth", spec := "fnExactLayoutWidth", unfollowed := true, recurses := true, apart := false }
def FnExactLayoutWidthSaid : Prop := fnExactLayoutWidthRow.holds Try.pinned (OpenSpec.ofChange fnExactLayoutWidthSpec)

/-- ITS FALSE NEIGHBOUR: 'it returns false'. Refute it at one input. -/
def fnExactLayoutWidthWrong : ChangeSpec := { name := "fnExactLayoutWidth", fn := fun _ => fun
  | [d] => { results := [.lit (.bool false)], args := [d] }
  | _ => none }
def FnExactLayoutWidthWrongFalsely : Prop := fnExactLayoutWidthRow.holds Try.pinned (OpenSpec.ofChange fnExactLayoutWidthWrong)

/-- 'laws.FnExactCarrierAfter': WHATEVER THE INPUT: true; the input reads as it did. -/
def fnExactCarrierAfterSpec : ChangeSpec := { name := "fnExactCarrierAfter", fn := fun _ => fun
  | [d1, d2, d3] => { results := [.lit (.bool true)], args := [d1, d2, d3] }
  | _ => none }
def fnExactCarrierAfterRow : OpenClaim := { program := "ytfaloanahffdmaa", sum := "79a62b09e763ffb0cf6805b53686f8d84054a5390c97ad6282cf6b6606be23a4", func := "loop.example/g00856/laws.FnExactCarrierAfter", spec := "fnExactCarrierAfter", unfollowed := true, recurses := true, apart := false }
def FnExactCarrierAfterSaid : Prop := fnExactCarrierAfterRow.holds Try.pinned (OpenSpec.ofChange fnExactCarrierAfterSpec)

/-- ITS FALSE NEIGHBOUR: 'it returns false'. Refute it at one input. -/
def fnExactCarrierAfterWrong : ChangeSpec := { name := "fnExactCarrierAfter", fn := fun _ => fun
  | [d1, d2, d3] => { results := [.lit (.bool false)], args := [d1, d2, d3] }
  | _ => none }
def FnExactCarrierAfterWrongFalsely : Prop := fnExactCarrierAfterRow.holds Try.pinned (OpenSpec.ofChange fnExactCarrierAfterWrong)

/- THE SECOND FORM. 'bulk': how many values and letters a reading holds, each counted each time it is reached (what is shared counts as often as it is met; a slice's spare places count too). A statement '..UptoSaid' is the law's where the arguments, and the package variables that the reading takes, are together of bulk at most 1048576: NARROWER than '..Said'. Prove '..Said' where nothing that the law and all that it calls make is longer than what came in: it says more and counts as full. Else prove '..UptoSaid'. A law counts once. -/
mutual
def uptoBulk {H : Type} : DataW H → Nat
  | .lit (.string bytes) => bytes.length + 1
  | .lit _ => 1
  | .nil => 1
  | .ptr d => uptoBulk d + 1
  | .slice elems spare => uptoBulkAll elems + uptoBulkAll spare + 1
  | .agg parts => uptoBulkAll parts + 1
  | .iface _ d => uptoBulk d + 1
  | .map entries => uptoBulkEntries entries + 1
  | .held _ => 1
def uptoBulkAll {H : Type} : List (DataW H) → Nat
  | [] => 0
  | d :: r => uptoBulk d + uptoBulkAll r
def uptoBulkEntries {H : Type} : List (Lit × DataW H) → Nat
  | [] => 0
  | x :: r => uptoBulkEntry x + uptoBulkEntries r
def uptoBulkEntry {H : Type} : Lit × DataW H → Nat
  | (.string bytes, d) => bytes.length + uptoBulk d + 1
  | (_, d) => uptoBulk d + 1
 end
def uptoSmall : (H : Type) → List (DataW H) → Bool := fun _ ds => decide (uptoBulkAll ds ≤ 1048576)
def OpenSpec.upto (s : _root_.Go.ChangeSpec) : _root_.Go.OpenSpec := { _root_.Go.OpenSpec.ofChange s with cond := some uptoSmall }

/-- 'laws.FnExactApplyMove', WHERE WHAT IT READS IS OF BULK AT MOST 1048576: true; the input reads as it did. -/
def fnExactApplyMoveUptoRow : OpenClaim := { program := "ytfaloanahffdmaa", sum := "79a62b09e763ffb0cf6805b53686f8d84054a5390c97ad6282cf6b6606be23a4", func := "loop.example/g00856/laws.FnExactApplyMove", spec := "fnExactApplyMove", apart := false, narrowed := true }
def FnExactApplyMoveUptoSaid : Prop := fnExactApplyMoveUptoRow.holds Try.pinned (OpenSpec.upto fnExactApplyMoveSpec)

/-- 'laws.FnExactOpCounts', WHERE WHAT IT READS IS OF BULK AT MOST 1048576: true; the input reads as it did. -/
def fnExactOpCountsUptoRow : OpenClaim := { program := "ytfaloanahffdmaa", sum := "79a62b09e763ffb0cf6805b53686f8d84054a5390c97ad6282cf6b6606be23a4", func := "loop.example/g00856/laws.FnExactOpCounts", spec := "fnExactOpCounts", apart := false, narrowed := true }
def FnExactOpCountsUptoSaid : Prop := fnExactOpCountsUptoRow.holds Try.pinned (OpenSpec.upto fnExactOpCountsSpec)

/-- 'laws.FnExactColumnBraid', WHERE WHAT IT READS IS OF BULK AT MOST 1048576: true; the input reads as it did. -/
def fnExactColumnBraidUptoRow : OpenClaim := { program := "ytfaloanahffdmaa", sum := "79a62b09e763ffb0cf6805b53686f8d84054a5390c97ad6282cf6b6606be23a4", func := "loop.example/g00856/laws.FnExactColumnBraid", spec := "fnExactColumnBraid", unfollowed := true, recurses := true, apart := false, narrowed := true }
def FnExactColumnBraidUptoSaid : Prop := fnExactColumnBraidUptoRow.holds Try.pinned (OpenSpec.upto fnExactColumnBraidSpec)

/-- 'laws.FnExactNewColumns', WHERE WHAT IT READS IS OF BULK AT MOST 1048576: true; the input reads as it did. -/
def fnExactNewColumnsUptoRow : OpenClaim := { program := "ytfaloanahffdmaa", sum := "79a62b09e763ffb0cf6805b53686f8d84054a5390c97ad6282cf6b6606be23a4", func := "loop.example/g00856/laws.FnExactNewColumns", spec := "fnExactNewColumns", unfollowed := true, recurses := true, apart := false, narrowed := true }
def FnExactNewColumnsUptoSaid : Prop := fnExactNewColumnsUptoRow.holds Try.pinned (OpenSpec.upto fnExactNewColumnsSpec)

/-- 'laws.FnExactRowResults', WHERE WHAT IT READS IS OF BULK AT MOST 1048576: true; the input reads as it did. -/
def fnExactRowResultsUptoRow : OpenClaim := { program := "ytfaloanahffdmaa", sum := "79a62b09e763ffb0cf6805b53686f8d84054a5390c97ad6282cf6b6606be23a4", func := "loop.example/g00856/laws.FnExactRowResults", spec := "fnExactRowResults", unfollowed := true, recurses := true, apart := false, narrowed := true }
def FnExactRowResultsUptoSaid : Prop := fnExactRowResultsUptoRow.holds Try.pinned (OpenSpec.upto fnExactRowResultsSpec)

/-- 'laws.FnExactRowSources', WHERE WHAT IT READS IS OF BULK AT MOST 1048576: true; the input reads as it did. -/
def fnExactRowSourcesUptoRow : OpenClaim := { program := "ytfaloanahffdmaa", sum := "79a62b09e763ffb0cf6805b53686f8d84054a5390c97ad6282cf6b6606be23a4", func := "loop.example/g00856/laws.FnExactRowSources", spec := "fnExactRowSources", unfollowed := true, recurses := true, apart := false, narrowed := true }
def FnExactRowSourcesUptoSaid : Prop := fnExactRowSourcesUptoRow.holds Try.pinned (OpenSpec.upto fnExactRowSourcesSpec)

/-- 'laws.FnLayout', WHERE WHAT IT READS IS OF BULK AT MOST 1048576: true; the input reads as it did. -/
def fnLayoutUptoRow : OpenClaim := { program := "ytfaloanahffdmaa", sum := "79a62b09e763ffb0cf6805b53686f8d84054a5390c97ad6282cf6b6606be23a4", func := "loop.example/g00856/laws.FnLayout", spec := "fnLayout", unfollowed := true, recurses := true, apart := false, narrowed := true }
def FnLayoutUptoSaid : Prop := fnLayoutUptoRow.holds Try.pinned (OpenSpec.upto fnLayoutSpec)

/-- 'laws.FnExactRowTargets', WHERE WHAT IT READS IS OF BULK AT MOST 1048576: true; the input reads as it did. -/
def fnExactRowTargetsUptoRow : OpenClaim := { program := "ytfaloanahffdmaa", sum := "79a62b09e763ffb0cf6805b53686f8d84054a5390c97ad6282cf6b6606be23a4", func := "loop.example/g00856/laws.FnExactRowTargets", spec := "fnExactRowTargets", unfollowed := true, recurses := true, apart := false, narrowed := true }
def FnExactRowTargetsUptoSaid : Prop := fnExactRowTargetsUptoRow.holds Try.pinned (OpenSpec.upto fnExactRowTargetsSpec)

/-- 'laws.FnExactCrossOps', WHERE WHAT IT READS IS OF BULK AT MOST 1048576: true; the input reads as it did. -/
def fnExactCrossOpsUptoRow : OpenClaim := { program := "ytfaloanahffdmaa", sum := "79a62b09e763ffb0cf6805b53686f8d84054a5390c97ad6282cf6b6606be23a4", func := "loop.example/g00856/laws.FnExactCrossOps", spec := "fnExactCrossOps", unfollowed := true, recurses := true, apart := false, narrowed := true }
def FnExactCrossOpsUptoSaid : Prop := fnExactCrossOpsUptoRow.holds Try.pinned (OpenSpec.upto fnExactCrossOpsSpec)

/-- 'laws.FnExactSameProof', WHERE WHAT IT READS IS OF BULK AT MOST 1048576: true; the input reads as it did. -/
def fnExactSameProofUptoRow : OpenClaim := { program := "ytfaloanahffdmaa", sum := "79a62b09e763ffb0cf6805b53686f8d84054a5390c97ad6282cf6b6606be23a4", func := "loop.example/g00856/laws.FnExactSameProof", spec := "fnExactSameProof", unfollowed := true, recurses := true, apart := false, narrowed := true }
def FnExactSameProofUptoSaid : Prop := fnExactSameProofUptoRow.holds Try.pinned (OpenSpec.upto fnExactSameProofSpec)

/-- 'laws.FnExactCrossingOps', WHERE WHAT IT READS IS OF BULK AT MOST 1048576: true; the input reads as it did. -/
def fnExactCrossingOpsUptoRow : OpenClaim := { program := "ytfaloanahffdmaa", sum := "79a62b09e763ffb0cf6805b53686f8d84054a5390c97ad6282cf6b6606be23a4", func := "loop.example/g00856/laws.FnExactCrossingOps", spec := "fnExactCrossingOps", unfollowed := true, recurses := true, apart := false, narrowed := true }
def FnExactCrossingOpsUptoSaid : Prop := fnExactCrossingOpsUptoRow.holds Try.pinned (OpenSpec.upto fnExactCrossingOpsSpec)

/-- 'laws.FnExactIsAtRest', WHERE WHAT IT READS IS OF BULK AT MOST 1048576: true; the input reads as it did. -/
def fnExactIsAtRestUptoRow : OpenClaim := { program := "ytfaloanahffdmaa", sum := "79a62b09e763ffb0cf6805b53686f8d84054a5390c97ad6282cf6b6606be23a4", func := "loop.example/g00856/laws.FnExactIsAtRest", spec := "fnExactIsAtRest", apart := false, narrowed := true }
def FnExactIsAtRestUptoSaid : Prop := fnExactIsAtRestUptoRow.holds Try.pinned (OpenSpec.upto fnExactIsAtRestSpec)

/-- 'laws.FnExactLayoutWidth', WHERE WHAT IT READS IS OF BULK AT MOST 1048576: true; the input reads as it did. -/
def fnExactLayoutWidthUptoRow : OpenClaim := { program := "ytfaloanahffdmaa", sum := "79a62b09e763ffb0cf6805b53686f8d84054a5390c97ad6282cf6b6606be23a4", func := "loop.example/g00856/laws.FnExactLayoutWidth", spec := "fnExactLayoutWidth", unfollowed := true, recurses := true, apart := false, narrowed := true }
def FnExactLayoutWidthUptoSaid : Prop := fnExactLayoutWidthUptoRow.holds Try.pinned (OpenSpec.upto fnExactLayoutWidthSpec)

/-- 'laws.FnExactCarrierAfter', WHERE WHAT IT READS IS OF BULK AT MOST 1048576: true; the input reads as it did. -/
def fnExactCarrierAfterUptoRow : OpenClaim := { program := "ytfaloanahffdmaa", sum := "79a62b09e763ffb0cf6805b53686f8d84054a5390c97ad6282cf6b6606be23a4", func := "loop.example/g00856/laws.FnExactCarrierAfter", spec := "fnExactCarrierAfter", unfollowed := true, recurses := true, apart := false, narrowed := true }
def FnExactCarrierAfterUptoSaid : Prop := fnExactCarrierAfterUptoRow.holds Try.pinned (OpenSpec.upto fnExactCarrierAfterSpec)

end Rows
end Go.Proofs.Ytfaloanahffdmaa
