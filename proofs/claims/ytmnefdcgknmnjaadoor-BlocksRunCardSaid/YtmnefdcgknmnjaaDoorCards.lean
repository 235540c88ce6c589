/-
  DERIVED. GIVEN WITH THE SEED: THE CARDS: each row of YtmnefdcgknmnjaaDoorRows.lean that lists a variable, with what it lists TIED to the program's text (the seventh form; the later family's looks); each row that meets fmt, with fmt's text TOLD by the authors' own Lean function (tested against real Go, not proved from fmt's source: count such statements apart). THE CARD IS WHAT COUNTS. Prove the row's statement (the work); the ties are given (YtmnefdcgknmnjaaDoorTie.lean); close each card by the builder's one call (the guide's Derived/Test/ToyasCard.lean, 'card_holds'). Laid BY PROGRAM, IN A SANDBOX (cutbox-door.mjs). By AI agents, Wed Nov 11 2026. No macro, syntax, notation, axiom, sorry.
-/
import Derived.Test.YtmnefdcgknmnjaaDoorRows
import GoSem.ClaimSeven
namespace Go.Proofs.YtmnefdcgknmnjaaDoor
namespace Rows

/-- THE TIED CARD OF 'edenlaw3.BlocksRun'. -/
def blocksRunCard : Claim7 := { stood := { row := blocksRunRow, standIns := [], harness := (true, "2ae77b3816998984f4ec2980ebe93dc4eb2a2bebb8d40d01f5b3ae66af730d25"), looks := true }, kinds := [], alts := [], laidByText := true, laidKinds := [.handle], laidTests := true, laidLooks := .later }
def BlocksRunCardSaid : Prop := Claim7.holds Tryd.pinned (.plain (OpenSpec.ofChange blocksRunSpec)) blocksRunCard

/-- THE SECOND FORM's CARD OF 'edenlaw3.BlocksRun'. -/
def blocksRunUptoCard : Claim7 := { stood := { row := blocksRunUptoRow, standIns := [], harness := (true, "2ae77b3816998984f4ec2980ebe93dc4eb2a2bebb8d40d01f5b3ae66af730d25"), looks := true }, kinds := [], alts := [], laidByText := true, laidKinds := [.handle], laidTests := true, laidLooks := .later }
def BlocksRunUptoCardSaid : Prop := Claim7.holds Tryd.pinned (.plain (OpenSpec.upto blocksRunSpec)) blocksRunUptoCard
end Rows
end Go.Proofs.YtmnefdcgknmnjaaDoor
