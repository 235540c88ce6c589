/-
  DERIVED. GIVEN WITH THE SEED: THE CARDS: each row of YtekoldebcihdoaaDoorRows.lean that lists a variable, with what it lists TIED to the program's text (the seventh form; the later family's looks); each row that meets fmt, with fmt's text TOLD by the authors' own Lean function (tested against real Go, not proved from fmt's source: count such statements apart). THE CARD IS WHAT COUNTS. Prove the row's statement (the work); the ties are given (YtekoldebcihdoaaDoorTie.lean); close each card by the builder's one call (the guide's Derived/Test/ToyasCard.lean, 'card_holds'). Laid BY PROGRAM, IN A SANDBOX (cutbox-door.mjs). By AI agents, Wed Nov 11 2026. No macro, syntax, notation, axiom, sorry.
-/
import Derived.Test.YtekoldebcihdoaaDoorRows
import GoSem.ClaimSeven
namespace Go.Proofs.YtekoldebcihdoaaDoor
namespace Rows

/-- THE TIED CARD OF 'edenlaw3.GasFlows'. -/
def gasFlowsCard : Claim7 := { stood := { row := gasFlowsRow, standIns := [], harness := (true, "e63e595c5adc745bc5ef9d620ee248ec769a40938792d3120d93abc412ba723b"), looks := true }, kinds := [], alts := [], laidByText := true, laidKinds := [.handle], laidTests := true, laidLooks := .later }
def GasFlowsCardSaid : Prop := Claim7.holds Tryd.pinned (.plain (OpenSpec.ofChange gasFlowsSpec)) gasFlowsCard

/-- THE SECOND FORM's CARD OF 'edenlaw3.GasFlows'. -/
def gasFlowsUptoCard : Claim7 := { stood := { row := gasFlowsUptoRow, standIns := [], harness := (true, "e63e595c5adc745bc5ef9d620ee248ec769a40938792d3120d93abc412ba723b"), looks := true }, kinds := [], alts := [], laidByText := true, laidKinds := [.handle], laidTests := true, laidLooks := .later }
def GasFlowsUptoCardSaid : Prop := Claim7.holds Tryd.pinned (.plain (OpenSpec.upto gasFlowsSpec)) gasFlowsUptoCard
end Rows
end Go.Proofs.YtekoldebcihdoaaDoor
