/-
  DERIVED. GIVEN WITH THE SEED: THE CARDS: each row of YtjikildiblchpaaDoorRows.lean that lists a variable, with what it lists TIED to the program's text (the seventh form; the later family's looks); each row that meets fmt, with fmt's text TOLD by the authors' own Lean function (tested against real Go, not proved from fmt's source: count such statements apart). THE CARD IS WHAT COUNTS. Prove the row's statement (the work); the ties are given (YtjikildiblchpaaDoorTie.lean); close each card by the builder's one call (the guide's Derived/Test/ToyasCard.lean, 'card_holds'). Laid BY PROGRAM, IN A SANDBOX (cutbox-door.mjs). By AI agents, Wed Nov 11 2026. No macro, syntax, notation, axiom, sorry.
-/
import Derived.Test.YtjikildiblchpaaDoorRows
import GoSem.ClaimSeven
namespace Go.Proofs.YtjikildiblchpaaDoor
namespace Rows

/-- THE TIED CARD OF 'edenlaw5.RotorRoutes'. -/
def rotorRoutesCard : Claim7 := { stood := { row := rotorRoutesRow, standIns := [], harness := (true, "0d39e172b3eb1a7f41f3a57f8ef349c08a707a53393c15916189e62b6fc80af8"), looks := true }, kinds := [], alts := [], laidByText := true, laidKinds := [.handle], laidTests := true, laidLooks := .later }
def RotorRoutesCardSaid : Prop := Claim7.holds Tryd.pinned (.plain (OpenSpec.ofChange rotorRoutesSpec)) rotorRoutesCard

/-- THE TIED CARD OF 'edenlaw5.ChipsRank'. -/
def chipsRankCard : Claim7 := { stood := { row := chipsRankRow, standIns := [], harness := (true, "0d39e172b3eb1a7f41f3a57f8ef349c08a707a53393c15916189e62b6fc80af8"), looks := true }, kinds := [], alts := [], laidByText := true, laidKinds := [.handle], laidTests := true, laidLooks := .later }
def ChipsRankCardSaid : Prop := Claim7.holds Tryd.pinned (.plain (OpenSpec.ofChange chipsRankSpec)) chipsRankCard

/-- THE TIED CARD OF 'edenlaw5.ChipsReduce'. -/
def chipsReduceCard : Claim7 := { stood := { row := chipsReduceRow, standIns := [], harness := (true, "0d39e172b3eb1a7f41f3a57f8ef349c08a707a53393c15916189e62b6fc80af8"), looks := true }, kinds := [], alts := [], laidByText := true, laidKinds := [.handle], laidTests := true, laidLooks := .later }
def ChipsReduceCardSaid : Prop := Claim7.holds Tryd.pinned (.plain (OpenSpec.ofChange chipsReduceSpec)) chipsReduceCard

/-- THE SECOND FORM's CARD OF 'edenlaw5.RotorRoutes'. -/
def rotorRoutesUptoCard : Claim7 := { stood := { row := rotorRoutesUptoRow, standIns := [], harness := (true, "0d39e172b3eb1a7f41f3a57f8ef349c08a707a53393c15916189e62b6fc80af8"), looks := true }, kinds := [], alts := [], laidByText := true, laidKinds := [.handle], laidTests := true, laidLooks := .later }
def RotorRoutesUptoCardSaid : Prop := Claim7.holds Tryd.pinned (.plain (OpenSpec.upto rotorRoutesSpec)) rotorRoutesUptoCard

/-- THE SECOND FORM's CARD OF 'edenlaw5.ChipsRank'. -/
def chipsRankUptoCard : Claim7 := { stood := { row := chipsRankUptoRow, standIns := [], harness := (true, "0d39e172b3eb1a7f41f3a57f8ef349c08a707a53393c15916189e62b6fc80af8"), looks := true }, kinds := [], alts := [], laidByText := true, laidKinds := [.handle], laidTests := true, laidLooks := .later }
def ChipsRankUptoCardSaid : Prop := Claim7.holds Tryd.pinned (.plain (OpenSpec.upto chipsRankSpec)) chipsRankUptoCard

/-- THE SECOND FORM's CARD OF 'edenlaw5.ChipsReduce'. -/
def chipsReduceUptoCard : Claim7 := { stood := { row := chipsReduceUptoRow, standIns := [], harness := (true, "0d39e172b3eb1a7f41f3a57f8ef349c08a707a53393c15916189e62b6fc80af8"), looks := true }, kinds := [], alts := [], laidByText := true, laidKinds := [.handle], laidTests := true, laidLooks := .later }
def ChipsReduceUptoCardSaid : Prop := Claim7.holds Tryd.pinned (.plain (OpenSpec.upto chipsReduceSpec)) chipsReduceUptoCard
end Rows
end Go.Proofs.YtjikildiblchpaaDoor
