/-
  DERIVED. GIVEN WITH THE SEED: THE CARDS: each row of YtfhhnajnanlmgaaDoorRows.lean that lists a variable, with what it lists TIED to the program's text (the seventh form; the later family's looks); each row that meets fmt, with fmt's text TOLD by the authors' own Lean function (tested against real Go, not proved from fmt's source: count such statements apart). THE CARD IS WHAT COUNTS. Prove the row's statement (the work); the ties are given (YtfhhnajnanlmgaaDoorTie.lean); close each card by the builder's one call (the guide's Derived/Test/ToyasCard.lean, 'card_holds'). Laid BY PROGRAM, IN A SANDBOX (cutbox-door.mjs). By AI agents, Wed Nov 11 2026. No macro, syntax, notation, axiom, sorry.
-/
import Derived.Test.YtfhhnajnanlmgaaDoorRows
import GoSem.ClaimSeven
namespace Go.Proofs.YtfhhnajnanlmgaaDoor
namespace Rows

/-- THE TIED CARD OF 'edenlaw4.CounterPlays'. -/
def counterPlaysCard : Claim7 := { stood := { row := counterPlaysRow, standIns := [], harness := (true, "5e2c479f8f72db428dd19787522d27c5bb85c5307ba0c9fba54baadd60f071bf"), looks := true }, kinds := [], alts := [], laidByText := true, laidKinds := [.handle, .sentinel], laidTests := true, laidLooks := .later }
def CounterPlaysCardSaid : Prop := Claim7.holds Tryd.pinned (.plain (OpenSpec.ofChange counterPlaysSpec)) counterPlaysCard

/-- THE TIED CARD OF 'edenlaw4.CounterRuns'. -/
def counterRunsCard : Claim7 := { stood := { row := counterRunsRow, standIns := [], harness := (true, "5e2c479f8f72db428dd19787522d27c5bb85c5307ba0c9fba54baadd60f071bf"), looks := true }, kinds := [], alts := [], laidByText := true, laidKinds := [.data, .data, .data, .handle], laidTests := true, laidLooks := .later }
def CounterRunsCardSaid : Prop := Claim7.holds Tryd.pinned (.plain (OpenSpec.ofChange counterRunsSpec)) counterRunsCard

/-- THE SECOND FORM's CARD OF 'edenlaw4.CounterPlays'. -/
def counterPlaysUptoCard : Claim7 := { stood := { row := counterPlaysUptoRow, standIns := [], harness := (true, "5e2c479f8f72db428dd19787522d27c5bb85c5307ba0c9fba54baadd60f071bf"), looks := true }, kinds := [], alts := [], laidByText := true, laidKinds := [.handle, .sentinel], laidTests := true, laidLooks := .later }
def CounterPlaysUptoCardSaid : Prop := Claim7.holds Tryd.pinned (.plain (OpenSpec.upto counterPlaysSpec)) counterPlaysUptoCard

/-- THE SECOND FORM's CARD OF 'edenlaw4.CounterRuns'. -/
def counterRunsUptoCard : Claim7 := { stood := { row := counterRunsUptoRow, standIns := [], harness := (true, "5e2c479f8f72db428dd19787522d27c5bb85c5307ba0c9fba54baadd60f071bf"), looks := true }, kinds := [], alts := [], laidByText := true, laidKinds := [.data, .data, .data, .handle], laidTests := true, laidLooks := .later }
def CounterRunsUptoCardSaid : Prop := Claim7.holds Tryd.pinned (.plain (OpenSpec.upto counterRunsSpec)) counterRunsUptoCard
end Rows
end Go.Proofs.YtfhhnajnanlmgaaDoor
