/-
  DERIVED. GIVEN WITH THE SEED: THE CARDS: each row of YtgefikkklbjcbaaDoorRows.lean that lists a variable, with what it lists TIED to the program's text (the seventh form; the later family's looks); each row that meets fmt, with fmt's text TOLD by the authors' own Lean function (tested against real Go, not proved from fmt's source: count such statements apart). THE CARD IS WHAT COUNTS. Prove the row's statement (the work); the ties are given (YtgefikkklbjcbaaDoorTie.lean); close each card by the builder's one call (the guide's Derived/Test/ToyasCard.lean, 'card_holds'). Laid BY PROGRAM, IN A SANDBOX (cutbox-door.mjs). By AI agents, Wed Nov 11 2026. No macro, syntax, notation, axiom, sorry.
-/
import Derived.Test.YtgefikkklbjcbaaDoorRows
import GoSem.ClaimSeven
namespace Go.Proofs.YtgefikkklbjcbaaDoor
namespace Rows

/-- THE TIED CARD OF 'edenlaw2.LineShifts'. -/
def lineShiftsCard : Claim7 := { stood := { row := lineShiftsRow, standIns := [], harness := (true, "13228d851160aced091f64caafdf123b1b3183b21c3be1cc643ad41a80bdebaf"), looks := true }, kinds := [], alts := [], laidByText := true, laidKinds := [.data, .pinned], laidTests := true, laidLooks := .later }
def LineShiftsCardSaid : Prop := Claim7.holds Tryd.pinned (.plain (OpenSpec.ofChange lineShiftsSpec)) lineShiftsCard

/-- THE TIED CARD OF 'edenlaw2.LineCycles'. -/
def lineCyclesCard : Claim7 := { stood := { row := lineCyclesRow, standIns := [], harness := (true, "13228d851160aced091f64caafdf123b1b3183b21c3be1cc643ad41a80bdebaf"), looks := true }, kinds := [], alts := [], laidByText := true, laidKinds := [.data, .handle, .pinned], laidTests := true, laidLooks := .later }
def LineCyclesCardSaid : Prop := Claim7.holds Tryd.pinned (.plain (OpenSpec.ofChange lineCyclesSpec)) lineCyclesCard

/-- THE TIED CARD OF 'edenlaw2.LineMakes'. -/
def lineMakesCard : Claim7 := { stood := { row := lineMakesRow, standIns := [], harness := (true, "13228d851160aced091f64caafdf123b1b3183b21c3be1cc643ad41a80bdebaf"), looks := true }, kinds := [], alts := [], laidByText := true, laidKinds := [.data, .handle, .pinned], laidTests := true, laidLooks := .later }
def LineMakesCardSaid : Prop := Claim7.holds Tryd.pinned (.plain (OpenSpec.ofChange lineMakesSpec)) lineMakesCard

/-- THE TIED CARD OF 'edenlaw2.LineSteps'. -/
def lineStepsCard : Claim7 := { stood := { row := lineStepsRow, standIns := [], harness := (true, "13228d851160aced091f64caafdf123b1b3183b21c3be1cc643ad41a80bdebaf"), looks := true }, kinds := [], alts := [], laidByText := true, laidKinds := [.data, .handle, .pinned], laidTests := true, laidLooks := .later }
def LineStepsCardSaid : Prop := Claim7.holds Tryd.pinned (.plain (OpenSpec.ofChange lineStepsSpec)) lineStepsCard

/-- THE SECOND FORM's CARD OF 'edenlaw2.LineShifts'. -/
def lineShiftsUptoCard : Claim7 := { stood := { row := lineShiftsUptoRow, standIns := [], harness := (true, "13228d851160aced091f64caafdf123b1b3183b21c3be1cc643ad41a80bdebaf"), looks := true }, kinds := [], alts := [], laidByText := true, laidKinds := [.data, .pinned], laidTests := true, laidLooks := .later }
def LineShiftsUptoCardSaid : Prop := Claim7.holds Tryd.pinned (.plain (OpenSpec.upto lineShiftsSpec)) lineShiftsUptoCard

/-- THE SECOND FORM's CARD OF 'edenlaw2.LineCycles'. -/
def lineCyclesUptoCard : Claim7 := { stood := { row := lineCyclesUptoRow, standIns := [], harness := (true, "13228d851160aced091f64caafdf123b1b3183b21c3be1cc643ad41a80bdebaf"), looks := true }, kinds := [], alts := [], laidByText := true, laidKinds := [.data, .handle, .pinned], laidTests := true, laidLooks := .later }
def LineCyclesUptoCardSaid : Prop := Claim7.holds Tryd.pinned (.plain (OpenSpec.upto lineCyclesSpec)) lineCyclesUptoCard

/-- THE SECOND FORM's CARD OF 'edenlaw2.LineMakes'. -/
def lineMakesUptoCard : Claim7 := { stood := { row := lineMakesUptoRow, standIns := [], harness := (true, "13228d851160aced091f64caafdf123b1b3183b21c3be1cc643ad41a80bdebaf"), looks := true }, kinds := [], alts := [], laidByText := true, laidKinds := [.data, .handle, .pinned], laidTests := true, laidLooks := .later }
def LineMakesUptoCardSaid : Prop := Claim7.holds Tryd.pinned (.plain (OpenSpec.upto lineMakesSpec)) lineMakesUptoCard

/-- THE SECOND FORM's CARD OF 'edenlaw2.LineSteps'. -/
def lineStepsUptoCard : Claim7 := { stood := { row := lineStepsUptoRow, standIns := [], harness := (true, "13228d851160aced091f64caafdf123b1b3183b21c3be1cc643ad41a80bdebaf"), looks := true }, kinds := [], alts := [], laidByText := true, laidKinds := [.data, .handle, .pinned], laidTests := true, laidLooks := .later }
def LineStepsUptoCardSaid : Prop := Claim7.holds Tryd.pinned (.plain (OpenSpec.upto lineStepsSpec)) lineStepsUptoCard
end Rows
end Go.Proofs.YtgefikkklbjcbaaDoor
