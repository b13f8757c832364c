/-
  No cell of these rows narrows 'for every input' (looked for: loops, veiled, ifaces, maps, wideKeys, modest, calm, conditions, laid).
  DERIVED. THE GIVEN ROWS OF THIS SEAT. 7 by the template 'for every input the law returns true; each argument reads behind the call as it read before'; 0 by the template 'total and deterministic' (their statements: YtiiodfcbpmkodaaTotals.lean).
  GIVEN WITH THE SEED: the statements are not yours to turn. If you find one false, say at which input.
  Laid BY PROGRAM, IN A SANDBOX (cutbox-rows.mjs): the forced cells as the released guide's own fill.sh prints them over the translation d9cb1c01517df955… (all of the seat's roots in one cut). By AI agents, Wed Nov 11 2026. No macro, syntax, notation, axiom, sorry.
-/
import Derived.Test.YtiiodfcbpmkodaaChecked
import GoSem.Claim
import GoSem.ClaimJoined
import GoSem.ClaimMapViews
import Derived.JoinedTies
import Derived.KernelRfl
namespace Go.Proofs.Ytiiodfcbpmkodaa
/- THE CELL 'sum', in the pinned program and in every row, IS THE sha256 OF THE DUMP (.gsa) THAT YtiiodfcbpmkodaaProg.lean LOADS. Nothing in Lean hashes anything: it is a label: what it is worth is what the hold of that sum in a sandbox is worth. -/
noncomputable def Try.pinned : Pinned := { name := "ytiiodfcbpmkodaa", sum := "d9cb1c01517df955ca98b433c20935f1d46bc62415e7559993dd555a1d0c48bb", checked := Try.checked }
namespace Rows
def none {H : Type} : Left H := { results := [], args := [] }

/-- 'laws.FnExactRuleAt': WHATEVER THE INPUT: true; the input reads as it did. -/
def fnExactRuleAtSpec : ChangeSpec := { name := "fnExactRuleAt", fn := fun _ => fun
  | [d1, d2, d3] => { results := [.lit (.bool true)], args := [d1, d2, d3] }
  | _ => none }
def fnExactRuleAtRow : OpenClaim := { program := "ytiiodfcbpmkodaa", sum := "d9cb1c01517df955ca98b433c20935f1d46bc62415e7559993dd555a1d0c48bb", func := "loop.example/g00856/laws.FnExactRuleAt", spec := "fnExactRuleAt", unfollowed := true, recurses := true, apart := false }
def FnExactRuleAtSaid : Prop := fnExactRuleAtRow.holds Try.pinned (OpenSpec.ofChange fnExactRuleAtSpec)

/-- ITS FALSE NEIGHBOUR: 'it returns false'. Refute it at one input. -/
def fnExactRuleAtWrong : ChangeSpec := { name := "fnExactRuleAt", fn := fun _ => fun
  | [d1, d2, d3] => { results := [.lit (.bool false)], args := [d1, d2, d3] }
  | _ => none }
def FnExactRuleAtWrongFalsely : Prop := fnExactRuleAtRow.holds Try.pinned (OpenSpec.ofChange fnExactRuleAtWrong)

/-- 'laws.FnExactIsOptimal': WHATEVER THE INPUT: true; the input reads as it did. -/
def fnExactIsOptimalSpec : ChangeSpec := { name := "fnExactIsOptimal", fn := fun _ => fun
  | [d1, d2] => { results := [.lit (.bool true)], args := [d1, d2] }
  | _ => none }
def fnExactIsOptimalRow : OpenClaim := { program := "ytiiodfcbpmkodaa", sum := "d9cb1c01517df955ca98b433c20935f1d46bc62415e7559993dd555a1d0c48bb", func := "loop.example/g00856/laws.FnExactIsOptimal", spec := "fnExactIsOptimal", unfollowed := true, recurses := true, apart := false }
def FnExactIsOptimalSaid : Prop := fnExactIsOptimalRow.holds Try.pinned (OpenSpec.ofChange fnExactIsOptimalSpec)

/-- ITS FALSE NEIGHBOUR: 'it returns false'. Refute it at one input. -/
def fnExactIsOptimalWrong : ChangeSpec := { name := "fnExactIsOptimal", fn := fun _ => fun
  | [d1, d2] => { results := [.lit (.bool false)], args := [d1, d2] }
  | _ => none }
def FnExactIsOptimalWrongFalsely : Prop := fnExactIsOptimalRow.holds Try.pinned (OpenSpec.ofChange fnExactIsOptimalWrong)

/-- 'laws.FnExactNextSaving': WHATEVER THE INPUT: true; the input reads as it did. -/
def fnExactNextSavingSpec : ChangeSpec := { name := "fnExactNextSaving", fn := fun _ => fun
  | [d1, d2] => { results := [.lit (.bool true)], args := [d1, d2] }
  | _ => none }
def fnExactNextSavingRow : OpenClaim := { program := "ytiiodfcbpmkodaa", sum := "d9cb1c01517df955ca98b433c20935f1d46bc62415e7559993dd555a1d0c48bb", func := "loop.example/g00856/laws.FnExactNextSaving", spec := "fnExactNextSaving", unfollowed := true, recurses := true, apart := false }
def FnExactNextSavingSaid : Prop := fnExactNextSavingRow.holds Try.pinned (OpenSpec.ofChange fnExactNextSavingSpec)

/-- ITS FALSE NEIGHBOUR: 'it returns false'. Refute it at one input. -/
def fnExactNextSavingWrong : ChangeSpec := { name := "fnExactNextSaving", fn := fun _ => fun
  | [d1, d2] => { results := [.lit (.bool false)], args := [d1, d2] }
  | _ => none }
def FnExactNextSavingWrongFalsely : Prop := fnExactNextSavingRow.holds Try.pinned (OpenSpec.ofChange fnExactNextSavingWrong)

/-- 'laws.FnExactApplySaving': WHATEVER THE INPUT: true; the input reads as it did. -/
def fnExactApplySavingSpec : ChangeSpec := { name := "fnExactApplySaving", fn := fun _ => fun
  | [d1, d2, d3] => { results := [.lit (.bool true)], args := [d1, d2, d3] }
  | _ => none }
def fnExactApplySavingRow : OpenClaim := { program := "ytiiodfcbpmkodaa", sum := "d9cb1c01517df955ca98b433c20935f1d46bc62415e7559993dd555a1d0c48bb", func := "loop.example/g00856/laws.FnExactApplySaving", spec := "fnExactApplySaving", unfollowed := true, recurses := true, apart := false }
def FnExactApplySavingSaid : Prop := fnExactApplySavingRow.holds Try.pinned (OpenSpec.ofChange fnExactApplySavingSpec)

/-- ITS FALSE NEIGHBOUR: 'it returns false'. Refute it at one input. -/
def fnExactApplySavingWrong : ChangeSpec := { name := "fnExactApplySaving", fn := fun _ => fun
  | [d1, d2, d3] => { results := [.lit (.bool false)], args := [d1, d2, d3] }
  | _ => none }
def FnExactApplySavingWrongFalsely : Prop := fnExactApplySavingRow.holds Try.pinned (OpenSpec.ofChange fnExactApplySavingWrong)

/-- 'laws.FnExactOptimizeOps': WHATEVER THE INPUT: true; the input reads as it did. -/
def fnExactOptimizeOpsSpec : ChangeSpec := { name := "fnExactOptimizeOps", fn := fun _ => fun
  | [d1, d2] => { results := [.lit (.bool true)], args := [d1, d2] }
  | _ => none }
def fnExactOptimizeOpsRow : OpenClaim := { program := "ytiiodfcbpmkodaa", sum := "d9cb1c01517df955ca98b433c20935f1d46bc62415e7559993dd555a1d0c48bb", func := "loop.example/g00856/laws.FnExactOptimizeOps", spec := "fnExactOptimizeOps", unfollowed := true, recurses := true, apart := false }
def FnExactOptimizeOpsSaid : Prop := fnExactOptimizeOpsRow.holds Try.pinned (OpenSpec.ofChange fnExactOptimizeOpsSpec)

/-- ITS FALSE NEIGHBOUR: 'it returns false'. Refute it at one input. -/
def fnExactOptimizeOpsWrong : ChangeSpec := { name := "fnExactOptimizeOps", fn := fun _ => fun
  | [d1, d2] => { results := [.lit (.bool false)], args := [d1, d2] }
  | _ => none }
def FnExactOptimizeOpsWrongFalsely : Prop := fnExactOptimizeOpsRow.holds Try.pinned (OpenSpec.ofChange fnExactOptimizeOpsWrong)

/-- 'laws.FnExactIsAtRest': WHATEVER THE INPUT: true; the input reads as it did. -/
def fnExactIsAtRestSpec : ChangeSpec := { name := "fnExactIsAtRest", fn := fun _ => fun
  | [d1, d2] => { results := [.lit (.bool true)], args := [d1, d2] }
  | _ => none }
def fnExactIsAtRestRow : OpenClaim := { program := "ytiiodfcbpmkodaa", sum := "d9cb1c01517df955ca98b433c20935f1d46bc62415e7559993dd555a1d0c48bb", func := "loop.example/g00856/laws.FnExactIsAtRest", spec := "fnExactIsAtRest", apart := false }
def FnExactIsAtRestSaid : Prop := fnExactIsAtRestRow.holds Try.pinned (OpenSpec.ofChange fnExactIsAtRestSpec)

/-- ITS FALSE NEIGHBOUR: 'it returns false'. Refute it at one input. -/
def fnExactIsAtRestWrong : ChangeSpec := { name := "fnExactIsAtRest", fn := fun _ => fun
  | [d1, d2] => { results := [.lit (.bool false)], args := [d1, d2] }
  | _ => none }
def FnExactIsAtRestWrongFalsely : Prop := fnExactIsAtRestRow.holds Try.pinned (OpenSpec.ofChange fnExactIsAtRestWrong)

/-- 'laws.FnExactRackEvents': WHATEVER THE INPUT: true; the input reads as it did. -/
def fnExactRackEventsSpec : ChangeSpec := { name := "fnExactRackEvents", fn := fun _ => fun
  | [d1, d2] => { results := [.lit (.bool true)], args := [d1, d2] }
  | _ => none }
def fnExactRackEventsRow : OpenClaim := { program := "ytiiodfcbpmkodaa", sum := "d9cb1c01517df955ca98b433c20935f1d46bc62415e7559993dd555a1d0c48bb", func := "loop.example/g00856/laws.FnExactRackEvents", spec := "fnExactRackEvents", apart := false }
def FnExactRackEventsSaid : Prop := fnExactRackEventsRow.holds Try.pinned (OpenSpec.ofChange fnExactRackEventsSpec)

/-- ITS FALSE NEIGHBOUR: 'it returns false'. Refute it at one input. -/
def fnExactRackEventsWrong : ChangeSpec := { name := "fnExactRackEvents", fn := fun _ => fun
  | [d1, d2] => { results := [.lit (.bool false)], args := [d1, d2] }
  | _ => none }
def FnExactRackEventsWrongFalsely : Prop := fnExactRackEventsRow.holds Try.pinned (OpenSpec.ofChange fnExactRackEventsWrong)

/- THE SECOND FORM. 'bulk': how many values and letters a reading holds, each counted each time it is reached (what is shared counts as often as it is met; a slice's spare places count too). A statement '..UptoSaid' is the law's where the arguments, and the package variables that the reading takes, are together of bulk at most 1048576: NARROWER than '..Said'. Prove '..Said' where nothing that the law and all that it calls make is longer than what came in: it says more and counts as full. Else prove '..UptoSaid'. A law counts once. -/
mutual
def uptoBulk {H : Type} : DataW H → Nat
  | .lit (.string bytes) => bytes.length + 1
  | .lit _ => 1
  | .nil => 1
  | .ptr d => uptoBulk d + 1
  | .slice elems spare => uptoBulkAll elems + uptoBulkAll spare + 1
  | .agg parts => uptoBulkAll parts + 1
  | .iface _ d => uptoBulk d + 1
  | .map entries => uptoBulkEntries entries + 1
  | .held _ => 1
def uptoBulkAll {H : Type} : List (DataW H) → Nat
  | [] => 0
  | d :: r => uptoBulk d + uptoBulkAll r
def uptoBulkEntries {H : Type} : List (Lit × DataW H) → Nat
  | [] => 0
  | x :: r => uptoBulkEntry x + uptoBulkEntries r
def uptoBulkEntry {H : Type} : Lit × DataW H → Nat
  | (.string bytes, d) => bytes.length + uptoBulk d + 1
  | (_, d) => uptoBulk d + 1
 end
def uptoSmall : (H : Type) → List (DataW H) → Bool := fun _ ds => decide (uptoBulkAll ds ≤ 1048576)
def OpenSpec.upto (s : _root_.Go.ChangeSpec) : _root_.Go.OpenSpec := { _root_.Go.OpenSpec.ofChange s with cond := some uptoSmall }

/-- 'laws.FnExactRuleAt', WHERE WHAT IT READS IS OF BULK AT MOST 1048576: true; the input reads as it did. -/
def fnExactRuleAtUptoRow : OpenClaim := { program := "ytiiodfcbpmkodaa", sum := "d9cb1c01517df955ca98b433c20935f1d46bc62415e7559993dd555a1d0c48bb", func := "loop.example/g00856/laws.FnExactRuleAt", spec := "fnExactRuleAt", unfollowed := true, recurses := true, apart := false, narrowed := true }
def FnExactRuleAtUptoSaid : Prop := fnExactRuleAtUptoRow.holds Try.pinned (OpenSpec.upto fnExactRuleAtSpec)

/-- 'laws.FnExactIsOptimal', WHERE WHAT IT READS IS OF BULK AT MOST 1048576: true; the input reads as it did. -/
def fnExactIsOptimalUptoRow : OpenClaim := { program := "ytiiodfcbpmkodaa", sum := "d9cb1c01517df955ca98b433c20935f1d46bc62415e7559993dd555a1d0c48bb", func := "loop.example/g00856/laws.FnExactIsOptimal", spec := "fnExactIsOptimal", unfollowed := true, recurses := true, apart := false, narrowed := true }
def FnExactIsOptimalUptoSaid : Prop := fnExactIsOptimalUptoRow.holds Try.pinned (OpenSpec.upto fnExactIsOptimalSpec)

/-- 'laws.FnExactNextSaving', WHERE WHAT IT READS IS OF BULK AT MOST 1048576: true; the input reads as it did. -/
def fnExactNextSavingUptoRow : OpenClaim := { program := "ytiiodfcbpmkodaa", sum := "d9cb1c01517df955ca98b433c20935f1d46bc62415e7559993dd555a1d0c48bb", func := "loop.example/g00856/laws.FnExactNextSaving", spec := "fnExactNextSaving", unfollowed := true, recurses := true, apart := false, narrowed := true }
def FnExactNextSavingUptoSaid : Prop := fnExactNextSavingUptoRow.holds Try.pinned (OpenSpec.upto fnExactNextSavingSpec)

/-- 'laws.FnExactApplySaving', WHERE WHAT IT READS IS OF BULK AT MOST 1048576: true; the input reads as it did. -/
def fnExactApplySavingUptoRow : OpenClaim := { program := "ytiiodfcbpmkodaa", sum := "d9cb1c01517df955ca98b433c20935f1d46bc62415e7559993dd555a1d0c48bb", func := "loop.example/g00856/laws.FnExactApplySaving", spec := "fnExactApplySaving", unfollowed := true, recurses := true, apart := false, narrowed := true }
def FnExactApplySavingUptoSaid : Prop := fnExactApplySavingUptoRow.holds Try.pinned (OpenSpec.upto fnExactApplySavingSpec)

/-- 'laws.FnExactOptimizeOps', WHERE WHAT IT READS IS OF BULK AT MOST 1048576: true; the input reads as it did. -/
def fnExactOptimizeOpsUptoRow : OpenClaim := { program := "ytiiodfcbpmkodaa", sum := "d9cb1c01517df955ca98b433c20935f1d46bc62415e7559993dd555a1d0c48bb", func := "loop.example/g00856/laws.FnExactOptimizeOps", spec := "fnExactOptimizeOps", unfollowed := true, recurses := true, apart := false, narrowed := true }
def FnExactOptimizeOpsUptoSaid : Prop := fnExactOptimizeOpsUptoRow.holds Try.pinned (OpenSpec.upto fnExactOptimizeOpsSpec)

/-- 'laws.FnExactIsAtRest', WHERE WHAT IT READS IS OF BULK AT MOST 1048576: true; the input reads as it did. -/
def fnExactIsAtRestUptoRow : OpenClaim := { program := "ytiiodfcbpmkodaa", sum := "d9cb1c01517df955ca98b433c20935f1d46bc62415e7559993dd555a1d0c48bb", func := "loop.example/g00856/laws.FnExactIsAtRest", spec := "fnExactIsAtRest", apart := false, narrowed := true }
def FnExactIsAtRestUptoSaid : Prop := fnExactIsAtRestUptoRow.holds Try.pinned (OpenSpec.upto fnExactIsAtRestSpec)

/-- 'laws.FnExactRackEvents', WHERE WHAT IT READS IS OF BULK AT MOST 1048576: true; the input reads as it did. -/
def fnExactRackEventsUptoRow : OpenClaim := { program := "ytiiodfcbpmkodaa", sum := "d9cb1c01517df955ca98b433c20935f1d46bc62415e7559993dd555a1d0c48bb", func := "loop.example/g00856/laws.FnExactRackEvents", spec := "fnExactRackEvents", apart := false, narrowed := true }
def FnExactRackEventsUptoSaid : Prop := fnExactRackEventsUptoRow.holds Try.pinned (OpenSpec.upto fnExactRackEventsSpec)

end Rows
end Go.Proofs.Ytiiodfcbpmkodaa
