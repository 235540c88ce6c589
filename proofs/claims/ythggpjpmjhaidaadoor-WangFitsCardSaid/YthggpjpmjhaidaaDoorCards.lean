/-
  DERIVED. GIVEN WITH THE SEED: THE CARDS: each row of YthggpjpmjhaidaaDoorRows.lean that lists a variable, with what it lists TIED to the program's text (the seventh form; the later family's looks); each row that meets fmt, with fmt's text TOLD by the authors' own Lean function (tested against real Go, not proved from fmt's source: count such statements apart). THE CARD IS WHAT COUNTS. Prove the row's statement (the work); the ties are given (YthggpjpmjhaidaaDoorTie.lean); close each card by the builder's one call (the guide's Derived/Test/ToyasCard.lean, 'card_holds'). Laid BY PROGRAM, IN A SANDBOX (cutbox-door.mjs). By AI agents, Wed Nov 11 2026. No macro, syntax, notation, axiom, sorry.
-/
import Derived.Test.YthggpjpmjhaidaaDoorRows
import GoSem.ClaimSeven
namespace Go.Proofs.YthggpjpmjhaidaaDoor
namespace Rows

/-- THE TIED CARD OF 'edenlaw6.WangDecides'. -/
def wangDecidesCard : Claim7 := { stood := { row := wangDecidesRow, standIns := [], harness := (true, "47921232b681f81afff2530759604a13cf5f693505626a83cd9de2e2b3cbce10"), looks := true }, kinds := [], alts := [], laidByText := true, laidKinds := [.handle], laidTests := true, laidLooks := .later }
def WangDecidesCardSaid : Prop := Claim7.holds Tryd.pinned (.plain (OpenSpec.ofChange wangDecidesSpec)) wangDecidesCard

/-- THE TIED CARD OF 'edenlaw6.GrowWords'. -/
def growWordsCard : Claim7 := { stood := { row := growWordsRow, standIns := [], harness := (true, "47921232b681f81afff2530759604a13cf5f693505626a83cd9de2e2b3cbce10"), looks := true }, kinds := [], alts := [], laidByText := true, laidKinds := [.handle], laidTests := true, laidLooks := .later }
def GrowWordsCardSaid : Prop := Claim7.holds Tryd.pinned (.plain (OpenSpec.ofChange growWordsSpec)) growWordsCard

/-- THE TIED CARD OF 'edenlaw6.GrowLetters'. -/
def growLettersCard : Claim7 := { stood := { row := growLettersRow, standIns := [], harness := (true, "47921232b681f81afff2530759604a13cf5f693505626a83cd9de2e2b3cbce10"), looks := true }, kinds := [], alts := [], laidByText := true, laidKinds := [.handle], laidTests := true, laidLooks := .later }
def GrowLettersCardSaid : Prop := Claim7.holds Tryd.pinned (.plain (OpenSpec.ofChange growLettersSpec)) growLettersCard

/-- THE TIED CARD OF 'edenlaw6.WangFits'. -/
def wangFitsCard : Claim7 := { stood := { row := wangFitsRow, standIns := [], harness := (true, "47921232b681f81afff2530759604a13cf5f693505626a83cd9de2e2b3cbce10"), looks := true }, kinds := [], alts := [], laidByText := true, laidKinds := [.handle], laidTests := true, laidLooks := .later }
def WangFitsCardSaid : Prop := Claim7.holds Tryd.pinned (.plain (OpenSpec.ofChange wangFitsSpec)) wangFitsCard

/-- THE TIED CARD OF 'edenlaw6.SpinsCounts'. -/
def spinsCountsCard : Claim7 := { stood := { row := spinsCountsRow, standIns := [], harness := (true, "47921232b681f81afff2530759604a13cf5f693505626a83cd9de2e2b3cbce10"), looks := true }, kinds := [], alts := [], laidByText := true, laidKinds := [.handle], laidTests := true, laidLooks := .later }
def SpinsCountsCardSaid : Prop := Claim7.holds Tryd.pinned (.plain (OpenSpec.ofChange spinsCountsSpec)) spinsCountsCard

/-- THE SECOND FORM's CARD OF 'edenlaw6.WangDecides'. -/
def wangDecidesUptoCard : Claim7 := { stood := { row := wangDecidesUptoRow, standIns := [], harness := (true, "47921232b681f81afff2530759604a13cf5f693505626a83cd9de2e2b3cbce10"), looks := true }, kinds := [], alts := [], laidByText := true, laidKinds := [.handle], laidTests := true, laidLooks := .later }
def WangDecidesUptoCardSaid : Prop := Claim7.holds Tryd.pinned (.plain (OpenSpec.upto wangDecidesSpec)) wangDecidesUptoCard

/-- THE SECOND FORM's CARD OF 'edenlaw6.GrowWords'. -/
def growWordsUptoCard : Claim7 := { stood := { row := growWordsUptoRow, standIns := [], harness := (true, "47921232b681f81afff2530759604a13cf5f693505626a83cd9de2e2b3cbce10"), looks := true }, kinds := [], alts := [], laidByText := true, laidKinds := [.handle], laidTests := true, laidLooks := .later }
def GrowWordsUptoCardSaid : Prop := Claim7.holds Tryd.pinned (.plain (OpenSpec.upto growWordsSpec)) growWordsUptoCard

/-- THE SECOND FORM's CARD OF 'edenlaw6.GrowLetters'. -/
def growLettersUptoCard : Claim7 := { stood := { row := growLettersUptoRow, standIns := [], harness := (true, "47921232b681f81afff2530759604a13cf5f693505626a83cd9de2e2b3cbce10"), looks := true }, kinds := [], alts := [], laidByText := true, laidKinds := [.handle], laidTests := true, laidLooks := .later }
def GrowLettersUptoCardSaid : Prop := Claim7.holds Tryd.pinned (.plain (OpenSpec.upto growLettersSpec)) growLettersUptoCard

/-- THE SECOND FORM's CARD OF 'edenlaw6.WangFits'. -/
def wangFitsUptoCard : Claim7 := { stood := { row := wangFitsUptoRow, standIns := [], harness := (true, "47921232b681f81afff2530759604a13cf5f693505626a83cd9de2e2b3cbce10"), looks := true }, kinds := [], alts := [], laidByText := true, laidKinds := [.handle], laidTests := true, laidLooks := .later }
def WangFitsUptoCardSaid : Prop := Claim7.holds Tryd.pinned (.plain (OpenSpec.upto wangFitsSpec)) wangFitsUptoCard

/-- THE SECOND FORM's CARD OF 'edenlaw6.SpinsCounts'. -/
def spinsCountsUptoCard : Claim7 := { stood := { row := spinsCountsUptoRow, standIns := [], harness := (true, "47921232b681f81afff2530759604a13cf5f693505626a83cd9de2e2b3cbce10"), looks := true }, kinds := [], alts := [], laidByText := true, laidKinds := [.handle], laidTests := true, laidLooks := .later }
def SpinsCountsUptoCardSaid : Prop := Claim7.holds Tryd.pinned (.plain (OpenSpec.upto spinsCountsSpec)) spinsCountsUptoCard
end Rows
end Go.Proofs.YthggpjpmjhaidaaDoor
