/-
  No cell of these rows narrows 'for every input' (looked for: loops, veiled, ifaces, maps, wideKeys, modest, calm, conditions, laid).
  DERIVED. THE GIVEN ROWS OF THIS SEAT. 4 by the template 'for every input the law returns true; each argument reads behind the call as it read before'; 0 by the template 'total and deterministic' (their statements: YtnjfhpgmogopnaaGreatTotals.lean).
  GIVEN WITH THE SEED: the statements are not yours to turn. If you find one false, say at which input.
  Laid BY PROGRAM, IN A SANDBOX (cutbox-rows.mjs): the forced cells as the released guide's own fill.sh prints them over the translation 32556008121313ac… (all of the seat's roots in one cut). By AI agents, Wed Nov 11 2026. No macro, syntax, notation, axiom, sorry.
-/
import Derived.Test.YtnjfhpgmogopnaaGreatChecked
import GoSem.Claim
import GoSem.ClaimJoined
import GoSem.ClaimMapViews
import Derived.JoinedTies
import Derived.KernelRfl
namespace Go.Proofs.YtnjfhpgmogopnaaGreat
/- THE CELL 'sum', in the pinned program and in every row, IS THE sha256 OF THE DUMP (.gsa) THAT YtnjfhpgmogopnaaGreatProg.lean LOADS. Nothing in Lean hashes anything: it is a label: what it is worth is what the hold of that sum in a sandbox is worth. -/
noncomputable def Tryz.pinned : Pinned := { name := "ytnjfhpgmogopnaagreat", sum := "32556008121313ac3641973ffc8b882dd33a3190e979a872b45d555d9ff607f0", checked := Tryz.checked }
namespace Rows
def none {H : Type} : Left H := { results := [], args := [] }

/-- 'laws.FnExactCarrierPlan': WHATEVER THE INPUT: true; the input reads as it did. -/
def fnExactCarrierPlanSpec : ChangeSpec := { name := "fnExactCarrierPlan", fn := fun _ => fun
  | [d] => { results := [.lit (.bool true)], args := [d] }
  | _ => none }
def fnExactCarrierPlanRow : OpenClaim := { program := "ytnjfhpgmogopnaagreat", sum := "32556008121313ac3641973ffc8b882dd33a3190e979a872b45d555d9ff607f0", func := "loop.example/g00856/laws.FnExactCarrierPlan", spec := "fnExactCarrierPlan", unfollowed := true, recurses := true, apart := false }
def FnExactCarrierPlanSaid : Prop := fnExactCarrierPlanRow.holds Tryz.pinned (OpenSpec.ofChange fnExactCarrierPlanSpec)

/-- ITS FALSE NEIGHBOUR: 'it returns false'. Refute it at one input. -/
def fnExactCarrierPlanWrong : ChangeSpec := { name := "fnExactCarrierPlan", fn := fun _ => fun
  | [d] => { results := [.lit (.bool false)], args := [d] }
  | _ => none }
def FnExactCarrierPlanWrongFalsely : Prop := fnExactCarrierPlanRow.holds Tryz.pinned (OpenSpec.ofChange fnExactCarrierPlanWrong)

/-- 'laws.FnExactRowOfOp': WHATEVER THE INPUT: true; the input reads as it did. -/
def fnExactRowOfOpSpec : ChangeSpec := { name := "fnExactRowOfOp", fn := fun _ => fun
  | [d1, d2] => { results := [.lit (.bool true)], args := [d1, d2] }
  | _ => none }
def fnExactRowOfOpRow : OpenClaim := { program := "ytnjfhpgmogopnaagreat", sum := "32556008121313ac3641973ffc8b882dd33a3190e979a872b45d555d9ff607f0", func := "loop.example/g00856/laws.FnExactRowOfOp", spec := "fnExactRowOfOp", unfollowed := true, recurses := true, apart := false }
def FnExactRowOfOpSaid : Prop := fnExactRowOfOpRow.holds Tryz.pinned (OpenSpec.ofChange fnExactRowOfOpSpec)

/-- ITS FALSE NEIGHBOUR: 'it returns false'. Refute it at one input. -/
def fnExactRowOfOpWrong : ChangeSpec := { name := "fnExactRowOfOp", fn := fun _ => fun
  | [d1, d2] => { results := [.lit (.bool false)], args := [d1, d2] }
  | _ => none }
def FnExactRowOfOpWrongFalsely : Prop := fnExactRowOfOpRow.holds Tryz.pinned (OpenSpec.ofChange fnExactRowOfOpWrong)

/-- 'laws.FnExactCompileChart': WHATEVER THE INPUT: true; the input reads as it did. -/
def fnExactCompileChartSpec : ChangeSpec := { name := "fnExactCompileChart", fn := fun _ => fun
  | [d] => { results := [.lit (.bool true)], args := [d] }
  | _ => none }
def fnExactCompileChartRow : OpenClaim := { program := "ytnjfhpgmogopnaagreat", sum := "32556008121313ac3641973ffc8b882dd33a3190e979a872b45d555d9ff607f0", func := "loop.example/g00856/laws.FnExactCompileChart", spec := "fnExactCompileChart", unfollowed := true, recurses := true, apart := false }
def FnExactCompileChartSaid : Prop := fnExactCompileChartRow.holds Tryz.pinned (OpenSpec.ofChange fnExactCompileChartSpec)

/-- ITS FALSE NEIGHBOUR: 'it returns false'. Refute it at one input. -/
def fnExactCompileChartWrong : ChangeSpec := { name := "fnExactCompileChart", fn := fun _ => fun
  | [d] => { results := [.lit (.bool false)], args := [d] }
  | _ => none }
def FnExactCompileChartWrongFalsely : Prop := fnExactCompileChartRow.holds Tryz.pinned (OpenSpec.ofChange fnExactCompileChartWrong)

/-- 'laws.FnExactCompileRows': WHATEVER THE INPUT: true; the input reads as it did. -/
def fnExactCompileRowsSpec : ChangeSpec := { name := "fnExactCompileRows", fn := fun _ => fun
  | [d] => { results := [.lit (.bool true)], args := [d] }
  | _ => none }
def fnExactCompileRowsRow : OpenClaim := { program := "ytnjfhpgmogopnaagreat", sum := "32556008121313ac3641973ffc8b882dd33a3190e979a872b45d555d9ff607f0", func := "loop.example/g00856/laws.FnExactCompileRows", spec := "fnExactCompileRows", unfollowed := true, recurses := true, apart := false }
def FnExactCompileRowsSaid : Prop := fnExactCompileRowsRow.holds Tryz.pinned (OpenSpec.ofChange fnExactCompileRowsSpec)

/-- ITS FALSE NEIGHBOUR: 'it returns false'. Refute it at one input. -/
def fnExactCompileRowsWrong : ChangeSpec := { name := "fnExactCompileRows", fn := fun _ => fun
  | [d] => { results := [.lit (.bool false)], args := [d] }
  | _ => none }
def FnExactCompileRowsWrongFalsely : Prop := fnExactCompileRowsRow.holds Tryz.pinned (OpenSpec.ofChange fnExactCompileRowsWrong)

/- THE SECOND FORM. 'bulk': how many values and letters a reading holds, each counted each time it is reached (what is shared counts as often as it is met; a slice's spare places count too). A statement '..UptoSaid' is the law's where the arguments, and the package variables that the reading takes, are together of bulk at most 1048576: NARROWER than '..Said'. Prove '..Said' where nothing that the law and all that it calls make is longer than what came in: it says more and counts as full. Else prove '..UptoSaid'. A law counts once. -/
mutual
def uptoBulk {H : Type} : DataW H → Nat
  | .lit (.string bytes) => bytes.length + 1
  | .lit _ => 1
  | .nil => 1
  | .ptr d => uptoBulk d + 1
  | .slice elems spare => uptoBulkAll elems + uptoBulkAll spare + 1
  | .agg parts => uptoBulkAll parts + 1
  | .iface _ d => uptoBulk d + 1
  | .map entries => uptoBulkEntries entries + 1
  | .held _ => 1
def uptoBulkAll {H : Type} : List (DataW H) → Nat
  | [] => 0
  | d :: r => uptoBulk d + uptoBulkAll r
def uptoBulkEntries {H : Type} : List (Lit × DataW H) → Nat
  | [] => 0
  | x :: r => uptoBulkEntry x + uptoBulkEntries r
def uptoBulkEntry {H : Type} : Lit × DataW H → Nat
  | (.string bytes, d) => bytes.length + uptoBulk d + 1
  | (_, d) => uptoBulk d + 1
 end
def uptoSmall : (H : Type) → List (DataW H) → Bool := fun _ ds => decide (uptoBulkAll ds ≤ 1048576)
def OpenSpec.upto (s : _root_.Go.ChangeSpec) : _root_.Go.OpenSpec := { _root_.Go.OpenSpec.ofChange s with cond := some uptoSmall }

/-- 'laws.FnExactCarrierPlan', WHERE WHAT IT READS IS OF BULK AT MOST 1048576: true; the input reads as it did. -/
def fnExactCarrierPlanUptoRow : OpenClaim := { program := "ytnjfhpgmogopnaagreat", sum := "32556008121313ac3641973ffc8b882dd33a3190e979a872b45d555d9ff607f0", func := "loop.example/g00856/laws.FnExactCarrierPlan", spec := "fnExactCarrierPlan", unfollowed := true, recurses := true, apart := false, narrowed := true }
def FnExactCarrierPlanUptoSaid : Prop := fnExactCarrierPlanUptoRow.holds Tryz.pinned (OpenSpec.upto fnExactCarrierPlanSpec)

/-- 'laws.FnExactRowOfOp', WHERE WHAT IT READS IS OF BULK AT MOST 1048576: true; the input reads as it did. -/
def fnExactRowOfOpUptoRow : OpenClaim := { program := "ytnjfhpgmogopnaagreat", sum := "32556008121313ac3641973ffc8b882dd33a3190e979a872b45d555d9ff607f0", func := "loop.example/g00856/laws.FnExactRowOfOp", spec := "fnExactRowOfOp", unfollowed := true, recurses := true, apart := false, narrowed := true }
def FnExactRowOfOpUptoSaid : Prop := fnExactRowOfOpUptoRow.holds Tryz.pinned (OpenSpec.upto fnExactRowOfOpSpec)

/-- 'laws.FnExactCompileChart', WHERE WHAT IT READS IS OF BULK AT MOST 1048576: true; the input reads as it did. -/
def fnExactCompileChartUptoRow : OpenClaim := { program := "ytnjfhpgmogopnaagreat", sum := "32556008121313ac3641973ffc8b882dd33a3190e979a872b45d555d9ff607f0", func := "loop.example/g00856/laws.FnExactCompileChart", spec := "fnExactCompileChart", unfollowed := true, recurses := true, apart := false, narrowed := true }
def FnExactCompileChartUptoSaid : Prop := fnExactCompileChartUptoRow.holds Tryz.pinned (OpenSpec.upto fnExactCompileChartSpec)

/-- 'laws.FnExactCompileRows', WHERE WHAT IT READS IS OF BULK AT MOST 1048576: true; the input reads as it did. -/
def fnExactCompileRowsUptoRow : OpenClaim := { program := "ytnjfhpgmogopnaagreat", sum := "32556008121313ac3641973ffc8b882dd33a3190e979a872b45d555d9ff607f0", func := "loop.example/g00856/laws.FnExactCompileRows", spec := "fnExactCompileRows", unfollowed := true, recurses := true, apart := false, narrowed := true }
def FnExactCompileRowsUptoSaid : Prop := fnExactCompileRowsUptoRow.holds Tryz.pinned (OpenSpec.upto fnExactCompileRowsSpec)

end Rows
end Go.Proofs.YtnjfhpgmogopnaaGreat
