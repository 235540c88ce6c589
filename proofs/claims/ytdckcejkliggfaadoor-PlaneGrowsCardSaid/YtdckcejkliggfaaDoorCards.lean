/-
  DERIVED. GIVEN WITH THE SEED: THE CARDS: each row of YtdckcejkliggfaaDoorRows.lean that lists a variable, with what it lists TIED to the program's text (the seventh form; the later family's looks); each row that meets fmt, with fmt's text TOLD by the authors' own Lean function (tested against real Go, not proved from fmt's source: count such statements apart). THE CARD IS WHAT COUNTS. Prove the row's statement (the work); the ties are given (YtdckcejkliggfaaDoorTie.lean); close each card by the builder's one call (the guide's Derived/Test/ToyasCard.lean, 'card_holds'). Laid BY PROGRAM, IN A SANDBOX (cutbox-door.mjs). By AI agents, Wed Nov 11 2026. No macro, syntax, notation, axiom, sorry.
-/
import Derived.Test.YtdckcejkliggfaaDoorRows
import GoSem.ClaimSeven
namespace Go.Proofs.YtdckcejkliggfaaDoor
namespace Rows

/-- THE TIED CARD OF 'edenlaw3.PlaneTurns'. -/
def planeTurnsCard : Claim7 := { stood := { row := planeTurnsRow, standIns := [], harness := (true, "908863297de4e73f600cbca865fe68ecf3ad1b120e0c7c6075e43c1053cab93f"), looks := true }, kinds := [], alts := [], laidByText := true, laidKinds := [.data, .pinned], laidTests := true, laidLooks := .later }
def PlaneTurnsCardSaid : Prop := Claim7.holds Tryd.pinned (.plain (OpenSpec.ofChange planeTurnsSpec)) planeTurnsCard

/-- THE TIED CARD OF 'edenlaw3.PlaneGrows'. -/
def planeGrowsCard : Claim7 := { stood := { row := planeGrowsRow, standIns := [], harness := (true, "908863297de4e73f600cbca865fe68ecf3ad1b120e0c7c6075e43c1053cab93f"), looks := true }, kinds := [], alts := [], laidByText := true, laidKinds := [.data, .handle, .pinned], laidTests := true, laidLooks := .later }
def PlaneGrowsCardSaid : Prop := Claim7.holds Tryd.pinned (.plain (OpenSpec.ofChange planeGrowsSpec)) planeGrowsCard

/-- THE TIED CARD OF 'edenlaw3.PlaneAgain'. -/
def planeAgainCard : Claim7 := { stood := { row := planeAgainRow, standIns := [], harness := (true, "908863297de4e73f600cbca865fe68ecf3ad1b120e0c7c6075e43c1053cab93f"), looks := true }, kinds := [], alts := [], laidByText := true, laidKinds := [.data, .handle, .pinned], laidTests := true, laidLooks := .later }
def PlaneAgainCardSaid : Prop := Claim7.holds Tryd.pinned (.plain (OpenSpec.ofChange planeAgainSpec)) planeAgainCard

/-- THE SECOND FORM's CARD OF 'edenlaw3.PlaneTurns'. -/
def planeTurnsUptoCard : Claim7 := { stood := { row := planeTurnsUptoRow, standIns := [], harness := (true, "908863297de4e73f600cbca865fe68ecf3ad1b120e0c7c6075e43c1053cab93f"), looks := true }, kinds := [], alts := [], laidByText := true, laidKinds := [.data, .pinned], laidTests := true, laidLooks := .later }
def PlaneTurnsUptoCardSaid : Prop := Claim7.holds Tryd.pinned (.plain (OpenSpec.upto planeTurnsSpec)) planeTurnsUptoCard

/-- THE SECOND FORM's CARD OF 'edenlaw3.PlaneGrows'. -/
def planeGrowsUptoCard : Claim7 := { stood := { row := planeGrowsUptoRow, standIns := [], harness := (true, "908863297de4e73f600cbca865fe68ecf3ad1b120e0c7c6075e43c1053cab93f"), looks := true }, kinds := [], alts := [], laidByText := true, laidKinds := [.data, .handle, .pinned], laidTests := true, laidLooks := .later }
def PlaneGrowsUptoCardSaid : Prop := Claim7.holds Tryd.pinned (.plain (OpenSpec.upto planeGrowsSpec)) planeGrowsUptoCard

/-- THE SECOND FORM's CARD OF 'edenlaw3.PlaneAgain'. -/
def planeAgainUptoCard : Claim7 := { stood := { row := planeAgainUptoRow, standIns := [], harness := (true, "908863297de4e73f600cbca865fe68ecf3ad1b120e0c7c6075e43c1053cab93f"), looks := true }, kinds := [], alts := [], laidByText := true, laidKinds := [.data, .handle, .pinned], laidTests := true, laidLooks := .later }
def PlaneAgainUptoCardSaid : Prop := Claim7.holds Tryd.pinned (.plain (OpenSpec.upto planeAgainSpec)) planeAgainUptoCard
end Rows
end Go.Proofs.YtdckcejkliggfaaDoor
