/-
  DERIVED. GIVEN WITH THE SEED: THE CARDS: each row of YtahhhbdnhimbfaaDoorRows.lean that lists a variable, with what it lists TIED to the program's text (the seventh form; the later family's looks); each row that meets fmt, with fmt's text TOLD by the authors' own Lean function (tested against real Go, not proved from fmt's source: count such statements apart). THE CARD IS WHAT COUNTS. Prove the row's statement (the work); the ties are given (YtahhhbdnhimbfaaDoorTie.lean); close each card by the builder's one call (the guide's Derived/Test/ToyasCard.lean, 'card_holds'). Laid BY PROGRAM, IN A SANDBOX (cutbox-door.mjs). By AI agents, Wed Nov 11 2026. No macro, syntax, notation, axiom, sorry.
-/
import Derived.Test.YtahhhbdnhimbfaaDoorRows
import GoSem.ClaimSeven
namespace Go.Proofs.YtahhhbdnhimbfaaDoor
namespace Rows

/-- THE TIED CARD OF 'edenlaw2.SumsKeeps'. -/
def sumsKeepsCard : Claim7 := { stood := { row := sumsKeepsRow, standIns := [], harness := (true, "dd92d34fb7092a80366eb60013ca3f12df688a68db5bfe16bc287422fa679d93"), looks := true }, kinds := [], alts := [], laidByText := true, laidKinds := [.data, .pinned], laidTests := true, laidLooks := .later }
def SumsKeepsCardSaid : Prop := Claim7.holds Tryd.pinned (.plain (OpenSpec.ofChange sumsKeepsSpec)) sumsKeepsCard

/-- THE TIED CARD OF 'edenlaw2.SumsJump'. -/
def sumsJumpCard : Claim7 := { stood := { row := sumsJumpRow, standIns := [], harness := (true, "dd92d34fb7092a80366eb60013ca3f12df688a68db5bfe16bc287422fa679d93"), looks := true }, kinds := [], alts := [], laidByText := true, laidKinds := [.data, .pinned], laidTests := true, laidLooks := .later }
def SumsJumpCardSaid : Prop := Claim7.holds Tryd.pinned (.plain (OpenSpec.ofChange sumsJumpSpec)) sumsJumpCard

/-- THE TIED CARD OF 'edenlaw2.SumsLinear'. -/
def sumsLinearCard : Claim7 := { stood := { row := sumsLinearRow, standIns := [], harness := (true, "dd92d34fb7092a80366eb60013ca3f12df688a68db5bfe16bc287422fa679d93"), looks := true }, kinds := [], alts := [], laidByText := true, laidKinds := [.data, .handle, .pinned], laidTests := true, laidLooks := .later }
def SumsLinearCardSaid : Prop := Claim7.holds Tryd.pinned (.plain (OpenSpec.ofChange sumsLinearSpec)) sumsLinearCard

/-- THE SECOND FORM's CARD OF 'edenlaw2.SumsKeeps'. -/
def sumsKeepsUptoCard : Claim7 := { stood := { row := sumsKeepsUptoRow, standIns := [], harness := (true, "dd92d34fb7092a80366eb60013ca3f12df688a68db5bfe16bc287422fa679d93"), looks := true }, kinds := [], alts := [], laidByText := true, laidKinds := [.data, .pinned], laidTests := true, laidLooks := .later }
def SumsKeepsUptoCardSaid : Prop := Claim7.holds Tryd.pinned (.plain (OpenSpec.upto sumsKeepsSpec)) sumsKeepsUptoCard

/-- THE SECOND FORM's CARD OF 'edenlaw2.SumsJump'. -/
def sumsJumpUptoCard : Claim7 := { stood := { row := sumsJumpUptoRow, standIns := [], harness := (true, "dd92d34fb7092a80366eb60013ca3f12df688a68db5bfe16bc287422fa679d93"), looks := true }, kinds := [], alts := [], laidByText := true, laidKinds := [.data, .pinned], laidTests := true, laidLooks := .later }
def SumsJumpUptoCardSaid : Prop := Claim7.holds Tryd.pinned (.plain (OpenSpec.upto sumsJumpSpec)) sumsJumpUptoCard

/-- THE SECOND FORM's CARD OF 'edenlaw2.SumsLinear'. -/
def sumsLinearUptoCard : Claim7 := { stood := { row := sumsLinearUptoRow, standIns := [], harness := (true, "dd92d34fb7092a80366eb60013ca3f12df688a68db5bfe16bc287422fa679d93"), looks := true }, kinds := [], alts := [], laidByText := true, laidKinds := [.data, .handle, .pinned], laidTests := true, laidLooks := .later }
def SumsLinearUptoCardSaid : Prop := Claim7.holds Tryd.pinned (.plain (OpenSpec.upto sumsLinearSpec)) sumsLinearUptoCard
end Rows
end Go.Proofs.YtahhhbdnhimbfaaDoor
