/-
  DERIVED. GIVEN WITH THE SEED: THE CARDS: each row of YthipeeagpllfeaaDoorRows.lean that lists a variable, with what it lists TIED to the program's text (the seventh form; the later family's looks); each row that meets fmt, with fmt's text TOLD by the authors' own Lean function (tested against real Go, not proved from fmt's source: count such statements apart). THE CARD IS WHAT COUNTS. Prove the row's statement (the work); the ties are given (YthipeeagpllfeaaDoorTie.lean); close each card by the builder's one call (the guide's Derived/Test/ToyasCard.lean, 'card_holds'). Laid BY PROGRAM, IN A SANDBOX (cutbox-door.mjs). By AI agents, Wed Nov 11 2026. No macro, syntax, notation, axiom, sorry.
-/
import Derived.Test.YthipeeagpllfeaaDoorRows
import GoSem.ClaimSeven
namespace Go.Proofs.YthipeeagpllfeaaDoor
namespace Rows

/-- THE TIED CARD OF 'edenlaw3.PlaneParent'. -/
def planeParentCard : Claim7 := { stood := { row := planeParentRow, standIns := [], harness := (true, "7bd2efee9bae8763e0f71138b10698e8a7823d9f50f89370ac8a188b5f78d89e"), looks := true }, kinds := [], alts := [], laidByText := true, laidKinds := [.data, .handle, .pinned], laidTests := true, laidLooks := .later }
def PlaneParentCardSaid : Prop := Claim7.holds Tryd.pinned (.plain (OpenSpec.ofChange planeParentSpec)) planeParentCard

/-- THE TIED CARD OF 'edenlaw3.PlaneEden'. -/
def planeEdenCard : Claim7 := { stood := { row := planeEdenRow, standIns := [], harness := (true, "7bd2efee9bae8763e0f71138b10698e8a7823d9f50f89370ac8a188b5f78d89e"), looks := true }, kinds := [], alts := [], laidByText := true, laidKinds := [.data, .handle, .pinned], laidTests := true, laidLooks := .later }
def PlaneEdenCardSaid : Prop := Claim7.holds Tryd.pinned (.plain (OpenSpec.ofChange planeEdenSpec)) planeEdenCard

/-- THE SECOND FORM's CARD OF 'edenlaw3.PlaneParent'. -/
def planeParentUptoCard : Claim7 := { stood := { row := planeParentUptoRow, standIns := [], harness := (true, "7bd2efee9bae8763e0f71138b10698e8a7823d9f50f89370ac8a188b5f78d89e"), looks := true }, kinds := [], alts := [], laidByText := true, laidKinds := [.data, .handle, .pinned], laidTests := true, laidLooks := .later }
def PlaneParentUptoCardSaid : Prop := Claim7.holds Tryd.pinned (.plain (OpenSpec.upto planeParentSpec)) planeParentUptoCard

/-- THE SECOND FORM's CARD OF 'edenlaw3.PlaneEden'. -/
def planeEdenUptoCard : Claim7 := { stood := { row := planeEdenUptoRow, standIns := [], harness := (true, "7bd2efee9bae8763e0f71138b10698e8a7823d9f50f89370ac8a188b5f78d89e"), looks := true }, kinds := [], alts := [], laidByText := true, laidKinds := [.data, .handle, .pinned], laidTests := true, laidLooks := .later }
def PlaneEdenUptoCardSaid : Prop := Claim7.holds Tryd.pinned (.plain (OpenSpec.upto planeEdenSpec)) planeEdenUptoCard
end Rows
end Go.Proofs.YthipeeagpllfeaaDoor
