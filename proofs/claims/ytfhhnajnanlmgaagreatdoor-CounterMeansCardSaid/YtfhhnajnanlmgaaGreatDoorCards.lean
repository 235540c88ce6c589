/-
  DERIVED. GIVEN WITH THE SEED: THE CARDS: each row of YtfhhnajnanlmgaaGreatDoorRows.lean that lists a variable, with what it lists TIED to the program's text (the seventh form; the later family's looks); each row that meets fmt, with fmt's text TOLD by the authors' own Lean function (tested against real Go, not proved from fmt's source: count such statements apart). THE CARD IS WHAT COUNTS. Prove the row's statement (the work); the ties are given (YtfhhnajnanlmgaaGreatDoorTie.lean); close each card by the builder's one call (the guide's Derived/Test/ToyasCard.lean, 'card_holds'). Laid BY PROGRAM, IN A SANDBOX (cutbox-door.mjs). By AI agents, Wed Nov 11 2026. No macro, syntax, notation, axiom, sorry.
-/
import Derived.Test.YtfhhnajnanlmgaaGreatDoorRows
import GoSem.ClaimSeven
namespace Go.Proofs.YtfhhnajnanlmgaaGreatDoor
namespace Rows

/-- THE TIED CARD OF 'edenlaw4.CounterReads'. -/
def counterReadsCard : Claim7 := { stood := { row := counterReadsRow, standIns := [], harness := (true, "9b16147c9a781c65aa74653193d45b2c385cd72f679137c783ab4beda1bc676d"), looks := true }, kinds := [], alts := [], laidByText := true, laidKinds := [.data, .data, .data, .data, .handle, .sentinel, .sentinel, .pinned], laidTests := true, laidLooks := .later }
def CounterReadsCardSaid : Prop := Claim7.holds Tryz.pinned (.plain (OpenSpec.ofChange counterReadsSpec)) counterReadsCard

/-- THE TIED CARD OF 'edenlaw4.CounterMeans'. -/
def counterMeansCard : Claim7 := { stood := { row := counterMeansRow, standIns := [], harness := (true, "9b16147c9a781c65aa74653193d45b2c385cd72f679137c783ab4beda1bc676d"), looks := true }, kinds := [], alts := [], laidByText := true, laidKinds := [.data, .data, .data, .data, .handle, .sentinel, .sentinel, .sentinel, .pinned], laidTests := true, laidLooks := .later }
def CounterMeansCardSaid : Prop := Claim7.holds Tryz.pinned (.plain (OpenSpec.ofChange counterMeansSpec)) counterMeansCard

/-- THE SECOND FORM's CARD OF 'edenlaw4.CounterReads'. -/
def counterReadsUptoCard : Claim7 := { stood := { row := counterReadsUptoRow, standIns := [], harness := (true, "9b16147c9a781c65aa74653193d45b2c385cd72f679137c783ab4beda1bc676d"), looks := true }, kinds := [], alts := [], laidByText := true, laidKinds := [.data, .data, .data, .data, .handle, .sentinel, .sentinel, .pinned], laidTests := true, laidLooks := .later }
def CounterReadsUptoCardSaid : Prop := Claim7.holds Tryz.pinned (.plain (OpenSpec.upto counterReadsSpec)) counterReadsUptoCard

/-- THE SECOND FORM's CARD OF 'edenlaw4.CounterMeans'. -/
def counterMeansUptoCard : Claim7 := { stood := { row := counterMeansUptoRow, standIns := [], harness := (true, "9b16147c9a781c65aa74653193d45b2c385cd72f679137c783ab4beda1bc676d"), looks := true }, kinds := [], alts := [], laidByText := true, laidKinds := [.data, .data, .data, .data, .handle, .sentinel, .sentinel, .sentinel, .pinned], laidTests := true, laidLooks := .later }
def CounterMeansUptoCardSaid : Prop := Claim7.holds Tryz.pinned (.plain (OpenSpec.upto counterMeansSpec)) counterMeansUptoCard
end Rows
end Go.Proofs.YtfhhnajnanlmgaaGreatDoor
