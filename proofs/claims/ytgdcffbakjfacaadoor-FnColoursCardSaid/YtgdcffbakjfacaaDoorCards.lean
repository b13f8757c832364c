/-
  DERIVED. GIVEN WITH THE SEED: THE CARDS: each row of YtgdcffbakjfacaaDoorRows.lean that lists a variable, with what it lists TIED to the program's text (the seventh form; the later family's looks); each row that meets fmt, with fmt's text TOLD by the authors' own Lean function (tested against real Go, not proved from fmt's source: count such statements apart). THE CARD IS WHAT COUNTS. Prove the row's statement (the work); the ties are given (YtgdcffbakjfacaaDoorTie.lean); close each card by the builder's one call (the guide's Derived/Test/ToyasCard.lean, 'card_holds'). Laid BY PROGRAM, IN A SANDBOX (cutbox-door.mjs). By AI agents, Wed Nov 11 2026. No macro, syntax, notation, axiom, sorry.
-/
import Derived.Test.YtgdcffbakjfacaaDoorRows
import GoSem.ClaimSeven
namespace Go.Proofs.YtgdcffbakjfacaaDoor
namespace Rows

/-- THE TIED CARD OF 'laws.FnColours'. -/
def fnColoursCard : Claim7 := { stood := { row := fnColoursRow, standIns := [], harness := (true, "a10909af779f3f9fa00f6d3ba71dc754598cf9aa6629025d21e90231e1706e82"), looks := false }, kinds := [], alts := [], laidByText := true, laidKinds := [.data, .data, .data, .data, .pinned], laidTests := true, laidLooks := .later }
def FnColoursCardSaid : Prop := Claim7.holds Tryd.pinned (.plain (OpenSpec.ofChange fnColoursSpec)) fnColoursCard

/-- THE SECOND FORM's CARD OF 'laws.FnColours'. -/
def fnColoursUptoCard : Claim7 := { stood := { row := fnColoursUptoRow, standIns := [], harness := (true, "a10909af779f3f9fa00f6d3ba71dc754598cf9aa6629025d21e90231e1706e82"), looks := false }, kinds := [], alts := [], laidByText := true, laidKinds := [.data, .data, .data, .data, .pinned], laidTests := true, laidLooks := .later }
def FnColoursUptoCardSaid : Prop := Claim7.holds Tryd.pinned (.plain (OpenSpec.upto fnColoursSpec)) fnColoursUptoCard
end Rows
end Go.Proofs.YtgdcffbakjfacaaDoor
