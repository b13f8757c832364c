/-
  No cell of these rows narrows 'for every input' (looked for: loops, veiled, ifaces, maps, wideKeys, modest, calm, conditions, laid).
  DERIVED. THE GIVEN ROWS OF THIS SEAT. 6 by the template 'for every input the law returns true; each argument reads behind the call as it read before'; 0 by the template 'total and deterministic' (their statements: YtnfjflbndpelgaaTotals.lean).
  GIVEN WITH THE SEED: the statements are not yours to turn. If you find one false, say at which input.
  Laid BY PROGRAM, IN A SANDBOX (cutbox-rows.mjs): the forced cells as the released guide's own fill.sh prints them over the translation 009bbc75294b5fee… (all of the seat's roots in one cut). By AI agents, Wed Nov 11 2026. No macro, syntax, notation, axiom, sorry.
-/
import Derived.Test.YtnfjflbndpelgaaChecked
import GoSem.Claim
import GoSem.ClaimJoined
import GoSem.ClaimMapViews
import Derived.JoinedTies
import Derived.KernelRfl
namespace Go.Proofs.Ytnfjflbndpelgaa
/- THE CELL 'sum', in the pinned program and in every row, IS THE sha256 OF THE DUMP (.gsa) THAT YtnfjflbndpelgaaProg.lean LOADS. Nothing in Lean hashes anything: it is a label: what it is worth is what the hold of that sum in a sandbox is worth. -/
noncomputable def Try.pinned : Pinned := { name := "ytnfjflbndpelgaa", sum := "009bbc75294b5fee58be8211d516025da6df3e038451297144b4799d7bc1788e", checked := Try.checked }
namespace Rows
def none {H : Type} : Left H := { results := [], args := [] }

/-- 'laws.FnExactRuleName': WHATEVER THE INPUT: true; the input reads as it did. -/
def fnExactRuleNameSpec : ChangeSpec := { name := "fnExactRuleName", fn := fun _ => fun
  | [d] => { results := [.lit (.bool true)], args := [d] }
  | _ => none }
def fnExactRuleNameRow : OpenClaim := { program := "ytnfjflbndpelgaa", sum := "009bbc75294b5fee58be8211d516025da6df3e038451297144b4799d7bc1788e", func := "loop.example/g00856/laws.FnExactRuleName", spec := "fnExactRuleName", apart := false }
def FnExactRuleNameSaid : Prop := fnExactRuleNameRow.holds Try.pinned (OpenSpec.ofChange fnExactRuleNameSpec)

/-- ITS FALSE NEIGHBOUR: 'it returns false'. Refute it at one input. -/
def fnExactRuleNameWrong : ChangeSpec := { name := "fnExactRuleName", fn := fun _ => fun
  | [d] => { results := [.lit (.bool false)], args := [d] }
  | _ => none }
def FnExactRuleNameWrongFalsely : Prop := fnExactRuleNameRow.holds Try.pinned (OpenSpec.ofChange fnExactRuleNameWrong)

/-- 'laws.FnExactColumnOfNeedle': WHATEVER THE INPUT: true; the input reads as it did. -/
def fnExactColumnOfNeedleSpec : ChangeSpec := { name := "fnExactColumnOfNeedle", fn := fun _ => fun
  | [d] => { results := [.lit (.bool true)], args := [d] }
  | _ => none }
def fnExactColumnOfNeedleRow : OpenClaim := { program := "ytnfjflbndpelgaa", sum := "009bbc75294b5fee58be8211d516025da6df3e038451297144b4799d7bc1788e", func := "loop.example/g00856/laws.FnExactColumnOfNeedle", spec := "fnExactColumnOfNeedle", apart := false }
def FnExactColumnOfNeedleSaid : Prop := fnExactColumnOfNeedleRow.holds Try.pinned (OpenSpec.ofChange fnExactColumnOfNeedleSpec)

/-- ITS FALSE NEIGHBOUR: 'it returns false'. Refute it at one input. -/
def fnExactColumnOfNeedleWrong : ChangeSpec := { name := "fnExactColumnOfNeedle", fn := fun _ => fun
  | [d] => { results := [.lit (.bool false)], args := [d] }
  | _ => none }
def FnExactColumnOfNeedleWrongFalsely : Prop := fnExactColumnOfNeedleRow.holds Try.pinned (OpenSpec.ofChange fnExactColumnOfNeedleWrong)

/-- 'laws.FnExactNeedleOfColumn': WHATEVER THE INPUT: true; the input reads as it did. -/
def fnExactNeedleOfColumnSpec : ChangeSpec := { name := "fnExactNeedleOfColumn", fn := fun _ => fun
  | [d] => { results := [.lit (.bool true)], args := [d] }
  | _ => none }
def fnExactNeedleOfColumnRow : OpenClaim := { program := "ytnfjflbndpelgaa", sum := "009bbc75294b5fee58be8211d516025da6df3e038451297144b4799d7bc1788e", func := "loop.example/g00856/laws.FnExactNeedleOfColumn", spec := "fnExactNeedleOfColumn", apart := false }
def FnExactNeedleOfColumnSaid : Prop := fnExactNeedleOfColumnRow.holds Try.pinned (OpenSpec.ofChange fnExactNeedleOfColumnSpec)

/-- ITS FALSE NEIGHBOUR: 'it returns false'. Refute it at one input. -/
def fnExactNeedleOfColumnWrong : ChangeSpec := { name := "fnExactNeedleOfColumn", fn := fun _ => fun
  | [d] => { results := [.lit (.bool false)], args := [d] }
  | _ => none }
def FnExactNeedleOfColumnWrongFalsely : Prop := fnExactNeedleOfColumnRow.holds Try.pinned (OpenSpec.ofChange fnExactNeedleOfColumnWrong)

/-- 'laws.FnExactValidPlaces': WHATEVER THE INPUT: true; the input reads as it did. -/
def fnExactValidPlacesSpec : ChangeSpec := { name := "fnExactValidPlaces", fn := fun _ => fun
  | [d] => { results := [.lit (.bool true)], args := [d] }
  | _ => none }
def fnExactValidPlacesRow : OpenClaim := { program := "ytnfjflbndpelgaa", sum := "009bbc75294b5fee58be8211d516025da6df3e038451297144b4799d7bc1788e", func := "loop.example/g00856/laws.FnExactValidPlaces", spec := "fnExactValidPlaces", apart := false }
def FnExactValidPlacesSaid : Prop := fnExactValidPlacesRow.holds Try.pinned (OpenSpec.ofChange fnExactValidPlacesSpec)

/-- ITS FALSE NEIGHBOUR: 'it returns false'. Refute it at one input. -/
def fnExactValidPlacesWrong : ChangeSpec := { name := "fnExactValidPlaces", fn := fun _ => fun
  | [d] => { results := [.lit (.bool false)], args := [d] }
  | _ => none }
def FnExactValidPlacesWrongFalsely : Prop := fnExactValidPlacesRow.holds Try.pinned (OpenSpec.ofChange fnExactValidPlacesWrong)

/-- 'laws.FnExactColumnNeedles': WHATEVER THE INPUT: true; the input reads as it did. -/
def fnExactColumnNeedlesSpec : ChangeSpec := { name := "fnExactColumnNeedles", fn := fun _ => fun
  | [d] => { results := [.lit (.bool true)], args := [d] }
  | _ => none }
def fnExactColumnNeedlesRow : OpenClaim := { program := "ytnfjflbndpelgaa", sum := "009bbc75294b5fee58be8211d516025da6df3e038451297144b4799d7bc1788e", func := "loop.example/g00856/laws.FnExactColumnNeedles", spec := "fnExactColumnNeedles", apart := false }
def FnExactColumnNeedlesSaid : Prop := fnExactColumnNeedlesRow.holds Try.pinned (OpenSpec.ofChange fnExactColumnNeedlesSpec)

/-- ITS FALSE NEIGHBOUR: 'it returns false'. Refute it at one input. -/
def fnExactColumnNeedlesWrong : ChangeSpec := { name := "fnExactColumnNeedles", fn := fun _ => fun
  | [d] => { results := [.lit (.bool false)], args := [d] }
  | _ => none }
def FnExactColumnNeedlesWrongFalsely : Prop := fnExactColumnNeedlesRow.holds Try.pinned (OpenSpec.ofChange fnExactColumnNeedlesWrong)

/-- 'laws.FnExactSwapLetters': WHATEVER THE INPUT: true; the input reads as it did. -/
def fnExactSwapLettersSpec : ChangeSpec := { name := "fnExactSwapLetters", fn := fun _ => fun
  | [d1, d2, d3, d4] => { results := [.lit (.bool true)], args := [d1, d2, d3, d4] }
  | _ => none }
def fnExactSwapLettersRow : OpenClaim := { program := "ytnfjflbndpelgaa", sum := "009bbc75294b5fee58be8211d516025da6df3e038451297144b4799d7bc1788e", func := "loop.example/g00856/laws.FnExactSwapLetters", spec := "fnExactSwapLetters", apart := false }
def FnExactSwapLettersSaid : Prop := fnExactSwapLettersRow.holds Try.pinned (OpenSpec.ofChange fnExactSwapLettersSpec)

/-- ITS FALSE NEIGHBOUR: 'it returns false'. Refute it at one input. -/
def fnExactSwapLettersWrong : ChangeSpec := { name := "fnExactSwapLetters", fn := fun _ => fun
  | [d1, d2, d3, d4] => { results := [.lit (.bool false)], args := [d1, d2, d3, d4] }
  | _ => none }
def FnExactSwapLettersWrongFalsely : Prop := fnExactSwapLettersRow.holds Try.pinned (OpenSpec.ofChange fnExactSwapLettersWrong)

/- THE SECOND FORM. 'bulk': how many values and letters a reading holds, each counted each time it is reached (what is shared counts as often as it is met; a slice's spare places count too). A statement '..UptoSaid' is the law's where the arguments, and the package variables that the reading takes, are together of bulk at most 1048576: NARROWER than '..Said'. Prove '..Said' where nothing that the law and all that it calls make is longer than what came in: it says more and counts as full. Else prove '..UptoSaid'. A law counts once. -/
mutual
def uptoBulk {H : Type} : DataW H → Nat
  | .lit (.string bytes) => bytes.length + 1
  | .lit _ => 1
  | .nil => 1
  | .ptr d => uptoBulk d + 1
  | .slice elems spare => uptoBulkAll elems + uptoBulkAll spare + 1
  | .agg parts => uptoBulkAll parts + 1
  | .iface _ d => uptoBulk d + 1
  | .map entries => uptoBulkEntries entries + 1
  | .held _ => 1
def uptoBulkAll {H : Type} : List (DataW H) → Nat
  | [] => 0
  | d :: r => uptoBulk d + uptoBulkAll r
def uptoBulkEntries {H : Type} : List (Lit × DataW H) → Nat
  | [] => 0
  | x :: r => uptoBulkEntry x + uptoBulkEntries r
def uptoBulkEntry {H : Type} : Lit × DataW H → Nat
  | (.string bytes, d) => bytes.length + uptoBulk d + 1
  | (_, d) => uptoBulk d + 1
 end
def uptoSmall : (H : Type) → List (DataW H) → Bool := fun _ ds => decide (uptoBulkAll ds ≤ 1048576)
def OpenSpec.upto (s : _root_.Go.ChangeSpec) : _root_.Go.OpenSpec := { _root_.Go.OpenSpec.ofChange s with cond := some uptoSmall }

/-- 'laws.FnExactRuleName', WHERE WHAT IT READS IS OF BULK AT MOST 1048576: true; the input reads as it did. -/
def fnExactRuleNameUptoRow : OpenClaim := { program := "ytnfjflbndpelgaa", sum := "009bbc75294b5fee58be8211d516025da6df3e038451297144b4799d7bc1788e", func := "loop.example/g00856/laws.FnExactRuleName", spec := "fnExactRuleName", apart := false, narrowed := true }
def FnExactRuleNameUptoSaid : Prop := fnExactRuleNameUptoRow.holds Try.pinned (OpenSpec.upto fnExactRuleNameSpec)

/-- 'laws.FnExactColumnOfNeedle', WHERE WHAT IT READS IS OF BULK AT MOST 1048576: true; the input reads as it did. -/
def fnExactColumnOfNeedleUptoRow : OpenClaim := { program := "ytnfjflbndpelgaa", sum := "009bbc75294b5fee58be8211d516025da6df3e038451297144b4799d7bc1788e", func := "loop.example/g00856/laws.FnExactColumnOfNeedle", spec := "fnExactColumnOfNeedle", apart := false, narrowed := true }
def FnExactColumnOfNeedleUptoSaid : Prop := fnExactColumnOfNeedleUptoRow.holds Try.pinned (OpenSpec.upto fnExactColumnOfNeedleSpec)

/-- 'laws.FnExactNeedleOfColumn', WHERE WHAT IT READS IS OF BULK AT MOST 1048576: true; the input reads as it did. -/
def fnExactNeedleOfColumnUptoRow : OpenClaim := { program := "ytnfjflbndpelgaa", sum := "009bbc75294b5fee58be8211d516025da6df3e038451297144b4799d7bc1788e", func := "loop.example/g00856/laws.FnExactNeedleOfColumn", spec := "fnExactNeedleOfColumn", apart := false, narrowed := true }
def FnExactNeedleOfColumnUptoSaid : Prop := fnExactNeedleOfColumnUptoRow.holds Try.pinned (OpenSpec.upto fnExactNeedleOfColumnSpec)

/-- 'laws.FnExactValidPlaces', WHERE WHAT IT READS IS OF BULK AT MOST 1048576: true; the input reads as it did. -/
def fnExactValidPlacesUptoRow : OpenClaim := { program := "ytnfjflbndpelgaa", sum := "009bbc75294b5fee58be8211d516025da6df3e038451297144b4799d7bc1788e", func := "loop.example/g00856/laws.FnExactValidPlaces", spec := "fnExactValidPlaces", apart := false, narrowed := true }
def FnExactValidPlacesUptoSaid : Prop := fnExactValidPlacesUptoRow.holds Try.pinned (OpenSpec.upto fnExactValidPlacesSpec)

/-- 'laws.FnExactColumnNeedles', WHERE WHAT IT READS IS OF BULK AT MOST 1048576: true; the input reads as it did. -/
def fnExactColumnNeedlesUptoRow : OpenClaim := { program := "ytnfjflbndpelgaa", sum := "009bbc75294b5fee58be8211d516025da6df3e038451297144b4799d7bc1788e", func := "loop.example/g00856/laws.FnExactColumnNeedles", spec := "fnExactColumnNeedles", apart := false, narrowed := true }
def FnExactColumnNeedlesUptoSaid : Prop := fnExactColumnNeedlesUptoRow.holds Try.pinned (OpenSpec.upto fnExactColumnNeedlesSpec)

/-- 'laws.FnExactSwapLetters', WHERE WHAT IT READS IS OF BULK AT MOST 1048576: true; the input reads as it did. -/
def fnExactSwapLettersUptoRow : OpenClaim := { program := "ytnfjflbndpelgaa", sum := "009bbc75294b5fee58be8211d516025da6df3e038451297144b4799d7bc1788e", func := "loop.example/g00856/laws.FnExactSwapLetters", spec := "fnExactSwapLetters", apart := false, narrowed := true }
def FnExactSwapLettersUptoSaid : Prop := fnExactSwapLettersUptoRow.holds Try.pinned (OpenSpec.upto fnExactSwapLettersSpec)

end Rows
end Go.Proofs.Ytnfjflbndpelgaa
