/-
  DERIVED. GIVEN WITH THE SEED: THE CARDS: each row of YtgagophijmiceaaDoorRows.lean that lists a variable, with what it lists TIED to the program's text (the seventh form; the later family's looks); each row that meets fmt, with fmt's text TOLD by the authors' own Lean function (tested against real Go, not proved from fmt's source: count such statements apart). THE CARD IS WHAT COUNTS. Prove the row's statement (the work); the ties are given (YtgagophijmiceaaDoorTie.lean); close each card by the builder's one call (the guide's Derived/Test/ToyasCard.lean, 'card_holds'). Laid BY PROGRAM, IN A SANDBOX (cutbox-door.mjs). By AI agents, Wed Nov 11 2026. No macro, syntax, notation, axiom, sorry.
-/
import Derived.Test.YtgagophijmiceaaDoorRows
import GoSem.ClaimSeven
namespace Go.Proofs.YtgagophijmiceaaDoor
namespace Rows

/-- THE TIED CARD OF 'edenlaw1.RulesParses'. -/
def rulesParsesCard : Claim7 := { stood := { row := rulesParsesRow, standIns := [], harness := (true, "e9d8ada0883b761e257db14b6ad4df6f4784473f2c65380408118eec210c24c3"), looks := true }, kinds := [], alts := [], laidByText := true, laidKinds := [.handle], laidTests := true, laidLooks := .later }
def RulesParsesCardSaid : Prop := Claim7.holds Tryd.pinned (.plain (OpenSpec.ofChange rulesParsesSpec)) rulesParsesCard

/-- THE TIED CARD OF 'edenlaw1.PatternReads'. -/
def patternReadsCard : Claim7 := { stood := { row := patternReadsRow, standIns := [], harness := (true, "e9d8ada0883b761e257db14b6ad4df6f4784473f2c65380408118eec210c24c3"), looks := true }, kinds := [], alts := [], laidByText := true, laidKinds := [.data, .handle, .widerDeep, .pinned], laidTests := true, laidLooks := .later }
def PatternReadsCardSaid : Prop := Claim7.holds Tryd.pinned (.plain (OpenSpec.ofChange patternReadsSpec)) patternReadsCard

/-- THE TIED CARD OF 'edenlaw1.PatternWrites'. -/
def patternWritesCard : Claim7 := { stood := { row := patternWritesRow, standIns := [], harness := (true, "e9d8ada0883b761e257db14b6ad4df6f4784473f2c65380408118eec210c24c3"), looks := true }, kinds := [], alts := [], laidByText := true, laidKinds := [.data, .data, .data, .handle, .widerDeep], laidTests := true, laidLooks := .later }
def PatternWritesCardSaid : Prop := Claim7.holds Tryd.pinned (.plain (OpenSpec.ofChange patternWritesSpec)) patternWritesCard

/-- THE TIED CARD OF 'edenlaw1.PatternBack'. -/
def patternBackCard : Claim7 := { stood := { row := patternBackRow, standIns := [], harness := (true, "e9d8ada0883b761e257db14b6ad4df6f4784473f2c65380408118eec210c24c3"), looks := true }, kinds := [], alts := [], laidByText := true, laidKinds := [.data, .data, .data, .data, .widerDeep, .pinned], laidTests := true, laidLooks := .later }
def PatternBackCardSaid : Prop := Claim7.holds Tryd.pinned (.plain (OpenSpec.ofChange patternBackSpec)) patternBackCard

/-- THE SECOND FORM's CARD OF 'edenlaw1.RulesParses'. -/
def rulesParsesUptoCard : Claim7 := { stood := { row := rulesParsesUptoRow, standIns := [], harness := (true, "e9d8ada0883b761e257db14b6ad4df6f4784473f2c65380408118eec210c24c3"), looks := true }, kinds := [], alts := [], laidByText := true, laidKinds := [.handle], laidTests := true, laidLooks := .later }
def RulesParsesUptoCardSaid : Prop := Claim7.holds Tryd.pinned (.plain (OpenSpec.upto rulesParsesSpec)) rulesParsesUptoCard

/-- THE SECOND FORM's CARD OF 'edenlaw1.PatternReads'. -/
def patternReadsUptoCard : Claim7 := { stood := { row := patternReadsUptoRow, standIns := [], harness := (true, "e9d8ada0883b761e257db14b6ad4df6f4784473f2c65380408118eec210c24c3"), looks := true }, kinds := [], alts := [], laidByText := true, laidKinds := [.data, .handle, .widerDeep, .pinned], laidTests := true, laidLooks := .later }
def PatternReadsUptoCardSaid : Prop := Claim7.holds Tryd.pinned (.plain (OpenSpec.upto patternReadsSpec)) patternReadsUptoCard

/-- THE SECOND FORM's CARD OF 'edenlaw1.PatternWrites'. -/
def patternWritesUptoCard : Claim7 := { stood := { row := patternWritesUptoRow, standIns := [], harness := (true, "e9d8ada0883b761e257db14b6ad4df6f4784473f2c65380408118eec210c24c3"), looks := true }, kinds := [], alts := [], laidByText := true, laidKinds := [.data, .data, .data, .handle, .widerDeep], laidTests := true, laidLooks := .later }
def PatternWritesUptoCardSaid : Prop := Claim7.holds Tryd.pinned (.plain (OpenSpec.upto patternWritesSpec)) patternWritesUptoCard

/-- THE SECOND FORM's CARD OF 'edenlaw1.PatternBack'. -/
def patternBackUptoCard : Claim7 := { stood := { row := patternBackUptoRow, standIns := [], harness := (true, "e9d8ada0883b761e257db14b6ad4df6f4784473f2c65380408118eec210c24c3"), looks := true }, kinds := [], alts := [], laidByText := true, laidKinds := [.data, .data, .data, .data, .widerDeep, .pinned], laidTests := true, laidLooks := .later }
def PatternBackUptoCardSaid : Prop := Claim7.holds Tryd.pinned (.plain (OpenSpec.upto patternBackSpec)) patternBackUptoCard
end Rows
end Go.Proofs.YtgagophijmiceaaDoor
