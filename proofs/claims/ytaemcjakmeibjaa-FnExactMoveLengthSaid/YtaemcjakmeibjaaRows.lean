/-
  No cell of these rows narrows 'for every input' (looked for: loops, veiled, ifaces, maps, wideKeys, modest, calm, conditions, laid).
  DERIVED. THE GIVEN ROWS OF THIS SEAT. 14 by the template 'for every input the law returns true; each argument reads behind the call as it read before'; 0 by the template 'total and deterministic' (their statements: YtaemcjakmeibjaaTotals.lean).
  GIVEN WITH THE SEED: the statements are not yours to turn. If you find one false, say at which input.
  Laid BY PROGRAM, IN A SANDBOX (cutbox-rows.mjs): the forced cells as the released guide's own fill.sh prints them over the translation ece4700b8e6a5bc3… (all of the seat's roots in one cut). By AI agents, Wed Nov 11 2026. No macro, syntax, notation, axiom, sorry.
-/
import Derived.Test.YtaemcjakmeibjaaChecked
import GoSem.Claim
import GoSem.ClaimJoined
import GoSem.ClaimMapViews
import Derived.JoinedTies
import Derived.KernelRfl
namespace Go.Proofs.Ytaemcjakmeibjaa
/- THE CELL 'sum', in the pinned program and in every row, IS THE sha256 OF THE DUMP (.gsa) THAT YtaemcjakmeibjaaProg.lean LOADS. Nothing in Lean hashes anything: it is a label: what it is worth is what the hold of that sum in a sandbox is worth. -/
noncomputable def Try.pinned : Pinned := { name := "ytaemcjakmeibjaa", sum := "ece4700b8e6a5bc38e50036e0eec41742c7b556c28fa2c92dfbdc367235c1d53", checked := Try.checked }
namespace Rows
def none {H : Type} : Left H := { results := [], args := [] }

/-- 'laws.FnExactMoveLength': WHATEVER THE INPUT: true; the input reads as it did. -/
def fnExactMoveLengthSpec : ChangeSpec := { name := "fnExactMoveLength", fn := fun _ => fun
  | [d] => { results := [.lit (.bool true)], args := [d] }
  | _ => none }
def fnExactMoveLengthRow : OpenClaim := { program := "ytaemcjakmeibjaa", sum := "ece4700b8e6a5bc38e50036e0eec41742c7b556c28fa2c92dfbdc367235c1d53", func := "loop.example/g00856/laws.FnExactMoveLength", spec := "fnExactMoveLength", apart := false }
def FnExactMoveLengthSaid : Prop := fnExactMoveLengthRow.holds Try.pinned (OpenSpec.ofChange fnExactMoveLengthSpec)

/-- ITS FALSE NEIGHBOUR: 'it returns false'. Refute it at one input. -/
def fnExactMoveLengthWrong : ChangeSpec := { name := "fnExactMoveLength", fn := fun _ => fun
  | [d] => { results := [.lit (.bool false)], args := [d] }
  | _ => none }
def FnExactMoveLengthWrongFalsely : Prop := fnExactMoveLengthRow.holds Try.pinned (OpenSpec.ofChange fnExactMoveLengthWrong)

/-- 'laws.FnExactCastOnOps': WHATEVER THE INPUT: true; the input reads as it did. -/
def fnExactCastOnOpsSpec : ChangeSpec := { name := "fnExactCastOnOps", fn := fun _ => fun
  | [d1, d2] => { results := [.lit (.bool true)], args := [d1, d2] }
  | _ => none }
def fnExactCastOnOpsRow : OpenClaim := { program := "ytaemcjakmeibjaa", sum := "ece4700b8e6a5bc38e50036e0eec41742c7b556c28fa2c92dfbdc367235c1d53", func := "loop.example/g00856/laws.FnExactCastOnOps", spec := "fnExactCastOnOps", apart := false }
def FnExactCastOnOpsSaid : Prop := fnExactCastOnOpsRow.holds Try.pinned (OpenSpec.ofChange fnExactCastOnOpsSpec)

/-- ITS FALSE NEIGHBOUR: 'it returns false'. Refute it at one input. -/
def fnExactCastOnOpsWrong : ChangeSpec := { name := "fnExactCastOnOps", fn := fun _ => fun
  | [d1, d2] => { results := [.lit (.bool false)], args := [d1, d2] }
  | _ => none }
def FnExactCastOnOpsWrongFalsely : Prop := fnExactCastOnOpsRow.holds Try.pinned (OpenSpec.ofChange fnExactCastOnOpsWrong)

/-- 'laws.FnExactRackOps': WHATEVER THE INPUT: true; the input reads as it did. -/
def fnExactRackOpsSpec : ChangeSpec := { name := "fnExactRackOps", fn := fun _ => fun
  | [d1, d2] => { results := [.lit (.bool true)], args := [d1, d2] }
  | _ => none }
def fnExactRackOpsRow : OpenClaim := { program := "ytaemcjakmeibjaa", sum := "ece4700b8e6a5bc38e50036e0eec41742c7b556c28fa2c92dfbdc367235c1d53", func := "loop.example/g00856/laws.FnExactRackOps", spec := "fnExactRackOps", apart := false }
def FnExactRackOpsSaid : Prop := fnExactRackOpsRow.holds Try.pinned (OpenSpec.ofChange fnExactRackOpsSpec)

/-- ITS FALSE NEIGHBOUR: 'it returns false'. Refute it at one input. -/
def fnExactRackOpsWrong : ChangeSpec := { name := "fnExactRackOps", fn := fun _ => fun
  | [d1, d2] => { results := [.lit (.bool false)], args := [d1, d2] }
  | _ => none }
def FnExactRackOpsWrongFalsely : Prop := fnExactRackOpsRow.holds Try.pinned (OpenSpec.ofChange fnExactRackOpsWrong)

/-- 'laws.FnExactCarryTo': WHATEVER THE INPUT: true; the input reads as it did. -/
def fnExactCarryToSpec : ChangeSpec := { name := "fnExactCarryTo", fn := fun _ => fun
  | [d1, d2, d3, d4] => { results := [.lit (.bool true)], args := [d1, d2, d3, d4] }
  | _ => none }
def fnExactCarryToRow : OpenClaim := { program := "ytaemcjakmeibjaa", sum := "ece4700b8e6a5bc38e50036e0eec41742c7b556c28fa2c92dfbdc367235c1d53", func := "loop.example/g00856/laws.FnExactCarryTo", spec := "fnExactCarryTo", apart := false }
def FnExactCarryToSaid : Prop := fnExactCarryToRow.holds Try.pinned (OpenSpec.ofChange fnExactCarryToSpec)

/-- ITS FALSE NEIGHBOUR: 'it returns false'. Refute it at one input. -/
def fnExactCarryToWrong : ChangeSpec := { name := "fnExactCarryTo", fn := fun _ => fun
  | [d1, d2, d3, d4] => { results := [.lit (.bool false)], args := [d1, d2, d3, d4] }
  | _ => none }
def FnExactCarryToWrongFalsely : Prop := fnExactCarryToRow.holds Try.pinned (OpenSpec.ofChange fnExactCarryToWrong)

/-- 'laws.FnExactMoveOps': WHATEVER THE INPUT: true; the input reads as it did. -/
def fnExactMoveOpsSpec : ChangeSpec := { name := "fnExactMoveOps", fn := fun _ => fun
  | [d] => { results := [.lit (.bool true)], args := [d] }
  | _ => none }
def fnExactMoveOpsRow : OpenClaim := { program := "ytaemcjakmeibjaa", sum := "ece4700b8e6a5bc38e50036e0eec41742c7b556c28fa2c92dfbdc367235c1d53", func := "loop.example/g00856/laws.FnExactMoveOps", spec := "fnExactMoveOps", apart := false }
def FnExactMoveOpsSaid : Prop := fnExactMoveOpsRow.holds Try.pinned (OpenSpec.ofChange fnExactMoveOpsSpec)

/-- ITS FALSE NEIGHBOUR: 'it returns false'. Refute it at one input. -/
def fnExactMoveOpsWrong : ChangeSpec := { name := "fnExactMoveOps", fn := fun _ => fun
  | [d] => { results := [.lit (.bool false)], args := [d] }
  | _ => none }
def FnExactMoveOpsWrongFalsely : Prop := fnExactMoveOpsRow.holds Try.pinned (OpenSpec.ofChange fnExactMoveOpsWrong)

/-- 'laws.FnExactApplyMove': WHATEVER THE INPUT: true; the input reads as it did. -/
def fnExactApplyMoveSpec : ChangeSpec := { name := "fnExactApplyMove", fn := fun _ => fun
  | [d1, d2] => { results := [.lit (.bool true)], args := [d1, d2] }
  | _ => none }
def fnExactApplyMoveRow : OpenClaim := { program := "ytaemcjakmeibjaa", sum := "ece4700b8e6a5bc38e50036e0eec41742c7b556c28fa2c92dfbdc367235c1d53", func := "loop.example/g00856/laws.FnExactApplyMove", spec := "fnExactApplyMove", apart := false }
def FnExactApplyMoveSaid : Prop := fnExactApplyMoveRow.holds Try.pinned (OpenSpec.ofChange fnExactApplyMoveSpec)

/-- ITS FALSE NEIGHBOUR: 'it returns false'. Refute it at one input. -/
def fnExactApplyMoveWrong : ChangeSpec := { name := "fnExactApplyMove", fn := fun _ => fun
  | [d1, d2] => { results := [.lit (.bool false)], args := [d1, d2] }
  | _ => none }
def FnExactApplyMoveWrongFalsely : Prop := fnExactApplyMoveRow.holds Try.pinned (OpenSpec.ofChange fnExactApplyMoveWrong)

/-- 'laws.FnExactStitchOps': WHATEVER THE INPUT: true; the input reads as it did. -/
def fnExactStitchOpsSpec : ChangeSpec := { name := "fnExactStitchOps", fn := fun _ => fun
  | [d1, d2, d3, d4] => { results := [.lit (.bool true)], args := [d1, d2, d3, d4] }
  | _ => none }
def fnExactStitchOpsRow : OpenClaim := { program := "ytaemcjakmeibjaa", sum := "ece4700b8e6a5bc38e50036e0eec41742c7b556c28fa2c92dfbdc367235c1d53", func := "loop.example/g00856/laws.FnExactStitchOps", spec := "fnExactStitchOps", apart := false }
def FnExactStitchOpsSaid : Prop := fnExactStitchOpsRow.holds Try.pinned (OpenSpec.ofChange fnExactStitchOpsSpec)

/-- ITS FALSE NEIGHBOUR: 'it returns false'. Refute it at one input. -/
def fnExactStitchOpsWrong : ChangeSpec := { name := "fnExactStitchOps", fn := fun _ => fun
  | [d1, d2, d3, d4] => { results := [.lit (.bool false)], args := [d1, d2, d3, d4] }
  | _ => none }
def FnExactStitchOpsWrongFalsely : Prop := fnExactStitchOpsRow.holds Try.pinned (OpenSpec.ofChange fnExactStitchOpsWrong)

/-- 'laws.FnExactPlaceColumns': WHATEVER THE INPUT: true; the input reads as it did. -/
def fnExactPlaceColumnsSpec : ChangeSpec := { name := "fnExactPlaceColumns", fn := fun _ => fun
  | [d1, d2] => { results := [.lit (.bool true)], args := [d1, d2] }
  | _ => none }
def fnExactPlaceColumnsRow : OpenClaim := { program := "ytaemcjakmeibjaa", sum := "ece4700b8e6a5bc38e50036e0eec41742c7b556c28fa2c92dfbdc367235c1d53", func := "loop.example/g00856/laws.FnExactPlaceColumns", spec := "fnExactPlaceColumns", apart := false }
def FnExactPlaceColumnsSaid : Prop := fnExactPlaceColumnsRow.holds Try.pinned (OpenSpec.ofChange fnExactPlaceColumnsSpec)

/-- ITS FALSE NEIGHBOUR: 'it returns false'. Refute it at one input. -/
def fnExactPlaceColumnsWrong : ChangeSpec := { name := "fnExactPlaceColumns", fn := fun _ => fun
  | [d1, d2] => { results := [.lit (.bool false)], args := [d1, d2] }
  | _ => none }
def FnExactPlaceColumnsWrongFalsely : Prop := fnExactPlaceColumnsRow.holds Try.pinned (OpenSpec.ofChange fnExactPlaceColumnsWrong)

/-- 'laws.FnExactCrossColumns': WHATEVER THE INPUT: true; the input reads as it did. -/
def fnExactCrossColumnsSpec : ChangeSpec := { name := "fnExactCrossColumns", fn := fun _ => fun
  | [d1, d2] => { results := [.lit (.bool true)], args := [d1, d2] }
  | _ => none }
def fnExactCrossColumnsRow : OpenClaim := { program := "ytaemcjakmeibjaa", sum := "ece4700b8e6a5bc38e50036e0eec41742c7b556c28fa2c92dfbdc367235c1d53", func := "loop.example/g00856/laws.FnExactCrossColumns", spec := "fnExactCrossColumns", apart := false }
def FnExactCrossColumnsSaid : Prop := fnExactCrossColumnsRow.holds Try.pinned (OpenSpec.ofChange fnExactCrossColumnsSpec)

/-- ITS FALSE NEIGHBOUR: 'it returns false'. Refute it at one input. -/
def fnExactCrossColumnsWrong : ChangeSpec := { name := "fnExactCrossColumns", fn := fun _ => fun
  | [d1, d2] => { results := [.lit (.bool false)], args := [d1, d2] }
  | _ => none }
def FnExactCrossColumnsWrongFalsely : Prop := fnExactCrossColumnsRow.holds Try.pinned (OpenSpec.ofChange fnExactCrossColumnsWrong)

/-- 'laws.FnExactPlanMoves': WHATEVER THE INPUT: true; the input reads as it did. -/
def fnExactPlanMovesSpec : ChangeSpec := { name := "fnExactPlanMoves", fn := fun _ => fun
  | [d1, d2] => { results := [.lit (.bool true)], args := [d1, d2] }
  | _ => none }
def fnExactPlanMovesRow : OpenClaim := { program := "ytaemcjakmeibjaa", sum := "ece4700b8e6a5bc38e50036e0eec41742c7b556c28fa2c92dfbdc367235c1d53", func := "loop.example/g00856/laws.FnExactPlanMoves", spec := "fnExactPlanMoves", apart := false }
def FnExactPlanMovesSaid : Prop := fnExactPlanMovesRow.holds Try.pinned (OpenSpec.ofChange fnExactPlanMovesSpec)

/-- ITS FALSE NEIGHBOUR: 'it returns false'. Refute it at one input. -/
def fnExactPlanMovesWrong : ChangeSpec := { name := "fnExactPlanMoves", fn := fun _ => fun
  | [d1, d2] => { results := [.lit (.bool false)], args := [d1, d2] }
  | _ => none }
def FnExactPlanMovesWrongFalsely : Prop := fnExactPlanMovesRow.holds Try.pinned (OpenSpec.ofChange fnExactPlanMovesWrong)

/-- 'laws.FnExactMoveColumns': WHATEVER THE INPUT: true; the input reads as it did. -/
def fnExactMoveColumnsSpec : ChangeSpec := { name := "fnExactMoveColumns", fn := fun _ => fun
  | [d1, d2] => { results := [.lit (.bool true)], args := [d1, d2] }
  | _ => none }
def fnExactMoveColumnsRow : OpenClaim := { program := "ytaemcjakmeibjaa", sum := "ece4700b8e6a5bc38e50036e0eec41742c7b556c28fa2c92dfbdc367235c1d53", func := "loop.example/g00856/laws.FnExactMoveColumns", spec := "fnExactMoveColumns", apart := false }
def FnExactMoveColumnsSaid : Prop := fnExactMoveColumnsRow.holds Try.pinned (OpenSpec.ofChange fnExactMoveColumnsSpec)

/-- ITS FALSE NEIGHBOUR: 'it returns false'. Refute it at one input. -/
def fnExactMoveColumnsWrong : ChangeSpec := { name := "fnExactMoveColumns", fn := fun _ => fun
  | [d1, d2] => { results := [.lit (.bool false)], args := [d1, d2] }
  | _ => none }
def FnExactMoveColumnsWrongFalsely : Prop := fnExactMoveColumnsRow.holds Try.pinned (OpenSpec.ofChange fnExactMoveColumnsWrong)

/-- 'laws.FnExactCrossOps': WHATEVER THE INPUT: true; the input reads as it did. -/
def fnExactCrossOpsSpec : ChangeSpec := { name := "fnExactCrossOps", fn := fun _ => fun
  | [d1, d2] => { results := [.lit (.bool true)], args := [d1, d2] }
  | _ => none }
def fnExactCrossOpsRow : OpenClaim := { program := "ytaemcjakmeibjaa", sum := "ece4700b8e6a5bc38e50036e0eec41742c7b556c28fa2c92dfbdc367235c1d53", func := "loop.example/g00856/laws.FnExactCrossOps", spec := "fnExactCrossOps", unfollowed := true, recurses := true, apart := false }
def FnExactCrossOpsSaid : Prop := fnExactCrossOpsRow.holds Try.pinned (OpenSpec.ofChange fnExactCrossOpsSpec)

/-- ITS FALSE NEIGHBOUR: 'it returns false'. Refute it at one input. -/
def fnExactCrossOpsWrong : ChangeSpec := { name := "fnExactCrossOps", fn := fun _ => fun
  | [d1, d2] => { results := [.lit (.bool false)], args := [d1, d2] }
  | _ => none }
def FnExactCrossOpsWrongFalsely : Prop := fnExactCrossOpsRow.holds Try.pinned (OpenSpec.ofChange fnExactCrossOpsWrong)

/-- 'laws.FnExactOpCounts': WHATEVER THE INPUT: true; the input reads as it did. -/
def fnExactOpCountsSpec : ChangeSpec := { name := "fnExactOpCounts", fn := fun _ => fun
  | [d] => { results := [.lit (.bool true)], args := [d] }
  | _ => none }
def fnExactOpCountsRow : OpenClaim := { program := "ytaemcjakmeibjaa", sum := "ece4700b8e6a5bc38e50036e0eec41742c7b556c28fa2c92dfbdc367235c1d53", func := "loop.example/g00856/laws.FnExactOpCounts", spec := "fnExactOpCounts", apart := false }
def FnExactOpCountsSaid : Prop := fnExactOpCountsRow.holds Try.pinned (OpenSpec.ofChange fnExactOpCountsSpec)

/-- ITS FALSE NEIGHBOUR: 'it returns false'. Refute it at one input. -/
def fnExactOpCountsWrong : ChangeSpec := { name := "fnExactOpCounts", fn := fun _ => fun
  | [d] => { results := [.lit (.bool false)], args := [d] }
  | _ => none }
def FnExactOpCountsWrongFalsely : Prop := fnExactOpCountsRow.holds Try.pinned (OpenSpec.ofChange fnExactOpCountsWrong)

/-- 'laws.FnExactColumnBraid': WHATEVER THE INPUT: true; the input reads as it did. -/
def fnExactColumnBraidSpec : ChangeSpec := { name := "fnExactColumnBraid", fn := fun _ => fun
  | [d1, d2] => { results := [.lit (.bool true)], args := [d1, d2] }
  | _ => none }
def fnExactColumnBraidRow : OpenClaim := { program := "ytaemcjakmeibjaa", sum := "ece4700b8e6a5bc38e50036e0eec41742c7b556c28fa2c92dfbdc367235c1d53", func := "loop.example/g00856/laws.FnExactColumnBraid", spec := "fnExactColumnBraid", unfollowed := true, recurses := true, apart := false }
def FnExactColumnBraidSaid : Prop := fnExactColumnBraidRow.holds Try.pinned (OpenSpec.ofChange fnExactColumnBraidSpec)

/-- ITS FALSE NEIGHBOUR: 'it returns false'. Refute it at one input. -/
def fnExactColumnBraidWrong : ChangeSpec := { name := "fnExactColumnBraid", fn := fun _ => fun
  | [d1, d2] => { results := [.lit (.bool false)], args := [d1, d2] }
  | _ => none }
def FnExactColumnBraidWrongFalsely : Prop := fnExactColumnBraidRow.holds Try.pinned (OpenSpec.ofChange fnExactColumnBraidWrong)

/- THE SECOND FORM. 'bulk': how many values and letters a reading holds, each counted each time it is reached (what is shared counts as often as it is met; a slice's spare places count too). A statement '..UptoSaid' is the law's where the arguments, and the package variables that the reading takes, are together of bulk at most 1048576: NARROWER than '..Said'. Prove '..Said' where nothing that the law and all that it calls make is longer than what came in: it says more and counts as full. Else prove '..UptoSaid'. A law counts once. -/
mutual
def uptoBulk {H : Type} : DataW H → Nat
  | .lit (.string bytes) => bytes.length + 1
  | .lit _ => 1
  | .nil => 1
  | .ptr d => uptoBulk d + 1
  | .slice elems spare => uptoBulkAll elems + uptoBulkAll spare + 1
  | .agg parts => uptoBulkAll parts + 1
  | .iface _ d => uptoBulk d + 1
  | .map entries => uptoBulkEntries entries + 1
  | .held _ => 1
def uptoBulkAll {H : Type} : List (DataW H) → Nat
  | [] => 0
  | d :: r => uptoBulk d + uptoBulkAll r
def uptoBulkEntries {H : Type} : List (Lit × DataW H) → Nat
  | [] => 0
  | x :: r => uptoBulkEntry x + uptoBulkEntries r
def uptoBulkEntry {H : Type} : Lit × DataW H → Nat
  | (.string bytes, d) => bytes.length + uptoBulk d + 1
  | (_, d) => uptoBulk d + 1
 end
def uptoSmall : (H : Type) → List (DataW H) → Bool := fun _ ds => decide (uptoBulkAll ds ≤ 1048576)
def OpenSpec.upto (s : _root_.Go.ChangeSpec) : _root_.Go.OpenSpec := { _root_.Go.OpenSpec.ofChange s with cond := some uptoSmall }

/-- 'laws.FnExactMoveLength', WHERE WHAT IT READS IS OF BULK AT MOST 1048576: true; the input reads as it did. -/
def fnExactMoveLengthUptoRow : OpenClaim := { program := "ytaemcjakmeibjaa", sum := "ece4700b8e6a5bc38e50036e0eec41742c7b556c28fa2c92dfbdc367235c1d53", func := "loop.example/g00856/laws.FnExactMoveLength", spec := "fnExactMoveLength", apart := false, narrowed := true }
def FnExactMoveLengthUptoSaid : Prop := fnExactMoveLengthUptoRow.holds Try.pinned (OpenSpec.upto fnExactMoveLengthSpec)

/-- 'laws.FnExactCastOnOps', WHERE WHAT IT READS IS OF BULK AT MOST 1048576: true; the input reads as it did. -/
def fnExactCastOnOpsUptoRow : OpenClaim := { program := "ytaemcjakmeibjaa", sum := "ece4700b8e6a5bc38e50036e0eec41742c7b556c28fa2c92dfbdc367235c1d53", func := "loop.example/g00856/laws.FnExactCastOnOps", spec := "fnExactCastOnOps", apart := false, narrowed := true }
def FnExactCastOnOpsUptoSaid : Prop := fnExactCastOnOpsUptoRow.holds Try.pinned (OpenSpec.upto fnExactCastOnOpsSpec)

/-- 'laws.FnExactRackOps', WHERE WHAT IT READS IS OF BULK AT MOST 1048576: true; the input reads as it did. -/
def fnExactRackOpsUptoRow : OpenClaim := { program := "ytaemcjakmeibjaa", sum := "ece4700b8e6a5bc38e50036e0eec41742c7b556c28fa2c92dfbdc367235c1d53", func := "loop.example/g00856/laws.FnExactRackOps", spec := "fnExactRackOps", apart := false, narrowed := true }
def FnExactRackOpsUptoSaid : Prop := fnExactRackOpsUptoRow.holds Try.pinned (OpenSpec.upto fnExactRackOpsSpec)

/-- 'laws.FnExactCarryTo', WHERE WHAT IT READS IS OF BULK AT MOST 1048576: true; the input reads as it did. -/
def fnExactCarryToUptoRow : OpenClaim := { program := "ytaemcjakmeibjaa", sum := "ece4700b8e6a5bc38e50036e0eec41742c7b556c28fa2c92dfbdc367235c1d53", func := "loop.example/g00856/laws.FnExactCarryTo", spec := "fnExactCarryTo", apart := false, narrowed := true }
def FnExactCarryToUptoSaid : Prop := fnExactCarryToUptoRow.holds Try.pinned (OpenSpec.upto fnExactCarryToSpec)

/-- 'laws.FnExactMoveOps', WHERE WHAT IT READS IS OF BULK AT MOST 1048576: true; the input reads as it did. -/
def fnExactMoveOpsUptoRow : OpenClaim := { program := "ytaemcjakmeibjaa", sum := "ece4700b8e6a5bc38e50036e0eec41742c7b556c28fa2c92dfbdc367235c1d53", func := "loop.example/g00856/laws.FnExactMoveOps", spec := "fnExactMoveOps", apart := false, narrowed := true }
def FnExactMoveOpsUptoSaid : Prop := fnExactMoveOpsUptoRow.holds Try.pinned (OpenSpec.upto fnExactMoveOpsSpec)

/-- 'laws.FnExactApplyMove', WHERE WHAT IT READS IS OF BULK AT MOST 1048576: true; the input reads as it did. -/
def fnExactApplyMoveUptoRow : OpenClaim := { program := "ytaemcjakmeibjaa", sum := "ece4700b8e6a5bc38e50036e0eec41742c7b556c28fa2c92dfbdc367235c1d53", func := "loop.example/g00856/laws.FnExactApplyMove", spec := "fnExactApplyMove", apart := false, narrowed := true }
def FnExactApplyMoveUptoSaid : Prop := fnExactApplyMoveUptoRow.holds Try.pinned (OpenSpec.upto fnExactApplyMoveSpec)

/-- 'laws.FnExactStitchOps', WHERE WHAT IT READS IS OF BULK AT MOST 1048576: true; the input reads as it did. -/
def fnExactStitchOpsUptoRow : OpenClaim := { program := "ytaemcjakmeibjaa", sum := "ece4700b8e6a5bc38e50036e0eec41742c7b556c28fa2c92dfbdc367235c1d53", func := "loop.example/g00856/laws.FnExactStitchOps", spec := "fnExactStitchOps", apart := false, narrowed := true }
def FnExactStitchOpsUptoSaid : Prop := fnExactStitchOpsUptoRow.holds Try.pinned (OpenSpec.upto fnExactStitchOpsSpec)

/-- 'laws.FnExactPlaceColumns', WHERE WHAT IT READS IS OF BULK AT MOST 1048576: true; the input reads as it did. -/
def fnExactPlaceColumnsUptoRow : OpenClaim := { program := "ytaemcjakmeibjaa", sum := "ece4700b8e6a5bc38e50036e0eec41742c7b556c28fa2c92dfbdc367235c1d53", func := "loop.example/g00856/laws.FnExactPlaceColumns", spec := "fnExactPlaceColumns", apart := false, narrowed := true }
def FnExactPlaceColumnsUptoSaid : Prop := fnExactPlaceColumnsUptoRow.holds Try.pinned (OpenSpec.upto fnExactPlaceColumnsSpec)

/-- 'laws.FnExactCrossColumns', WHERE WHAT IT READS IS OF BULK AT MOST 1048576: true; the input reads as it did. -/
def fnExactCrossColumnsUptoRow : OpenClaim := { program := "ytaemcjakmeibjaa", sum := "ece4700b8e6a5bc38e50036e0eec41742c7b556c28fa2c92dfbdc367235c1d53", func := "loop.example/g00856/laws.FnExactCrossColumns", spec := "fnExactCrossColumns", apart := false, narrowed := true }
def FnExactCrossColumnsUptoSaid : Prop := fnExactCrossColumnsUptoRow.holds Try.pinned (OpenSpec.upto fnExactCrossColumnsSpec)

/-- 'laws.FnExactPlanMoves', WHERE WHAT IT READS IS OF BULK AT MOST 1048576: true; the input reads as it did. -/
def fnExactPlanMovesUptoRow : OpenClaim := { program := "ytaemcjakmeibjaa", sum := "ece4700b8e6a5bc38e50036e0eec41742c7b556c28fa2c92dfbdc367235c1d53", func := "loop.example/g00856/laws.FnExactPlanMoves", spec := "fnExactPlanMoves", apart := false, narrowed := true }
def FnExactPlanMovesUptoSaid : Prop := fnExactPlanMovesUptoRow.holds Try.pinned (OpenSpec.upto fnExactPlanMovesSpec)

/-- 'laws.FnExactMoveColumns', WHERE WHAT IT READS IS OF BULK AT MOST 1048576: true; the input reads as it did. -/
def fnExactMoveColumnsUptoRow : OpenClaim := { program := "ytaemcjakmeibjaa", sum := "ece4700b8e6a5bc38e50036e0eec41742c7b556c28fa2c92dfbdc367235c1d53", func := "loop.example/g00856/laws.FnExactMoveColumns", spec := "fnExactMoveColumns", apart := false, narrowed := true }
def FnExactMoveColumnsUptoSaid : Prop := fnExactMoveColumnsUptoRow.holds Try.pinned (OpenSpec.upto fnExactMoveColumnsSpec)

/-- 'laws.FnExactCrossOps', WHERE WHAT IT READS IS OF BULK AT MOST 1048576: true; the input reads as it did. -/
def fnExactCrossOpsUptoRow : OpenClaim := { program := "ytaemcjakmeibjaa", sum := "ece4700b8e6a5bc38e50036e0eec41742c7b556c28fa2c92dfbdc367235c1d53", func := "loop.example/g00856/laws.FnExactCrossOps", spec := "fnExactCrossOps", unfollowed := true, recurses := true, apart := false, narrowed := true }
def FnExactCrossOpsUptoSaid : Prop := fnExactCrossOpsUptoRow.holds Try.pinned (OpenSpec.upto fnExactCrossOpsSpec)

/-- 'laws.FnExactOpCounts', WHERE WHAT IT READS IS OF BULK AT MOST 1048576: true; the input reads as it did. -/
def fnExactOpCountsUptoRow : OpenClaim := { program := "ytaemcjakmeibjaa", sum := "ece4700b8e6a5bc38e50036e0eec41742c7b556c28fa2c92dfbdc367235c1d53", func := "loop.example/g00856/laws.FnExactOpCounts", spec := "fnExactOpCounts", apart := false, narrowed := true }
def FnExactOpCountsUptoSaid : Prop := fnExactOpCountsUptoRow.holds Try.pinned (OpenSpec.upto fnExactOpCountsSpec)

/-- 'laws.FnExactColumnBraid', WHERE WHAT IT READS IS OF BULK AT MOST 1048576: true; the input reads as it did. -/
def fnExactColumnBraidUptoRow : OpenClaim := { program := "ytaemcjakmeibjaa", sum := "ece4700b8e6a5bc38e50036e0eec41742c7b556c28fa2c92dfbdc367235c1d53", func := "loop.example/g00856/laws.FnExactColumnBraid", spec := "fnExactColumnBraid", unfollowed := true, recurses := true, apart := false, narrowed := true }
def FnExactColumnBraidUptoSaid : Prop := fnExactColumnBraidUptoRow.holds Try.pinned (OpenSpec.upto fnExactColumnBraidSpec)

end Rows
end Go.Proofs.Ytaemcjakmeibjaa
