/-
  NARROWER THAN 'FOR EVERY INPUT', by the rows' own cells (each row's printed sentence says how): WangDecides: laid · GrowWords: laid · GrowLetters: laid · WangFits: laid · SpinsCounts: laid.
  DERIVED. THE GIVEN ROWS OF THIS SEAT. 5 by the template 'for every input the law returns true; each argument reads behind the call as it read before'; 0 by the template 'total and deterministic' (their statements: YthggpjpmjhaidaaDoorTotals.lean).
  GIVEN WITH THE SEED: the statements are not yours to turn. If you find one false, say at which input.
  Laid BY PROGRAM, IN A SANDBOX (cutbox-rows.mjs): the forced cells as the released guide's own fill.sh prints them over the translation c320287ba1343749… (all of the seat's roots in one cut). By AI agents, Wed Nov 11 2026. No macro, syntax, notation, axiom, sorry.
-/
import Derived.Test.YthggpjpmjhaidaaDoorChecked
import GoSem.Claim
import GoSem.ClaimJoined
import GoSem.ClaimMapViews
import Derived.JoinedTies
import Derived.KernelRfl
namespace Go.Proofs.YthggpjpmjhaidaaDoor
/- THE CELL 'sum', in the pinned program and in every row, IS THE sha256 OF THE DUMP (.gsa) THAT YthggpjpmjhaidaaDoorProg.lean LOADS. Nothing in Lean hashes anything: it is a label: what it is worth is what the hold of that sum in a sandbox is worth. -/
noncomputable def Tryd.pinned : Pinned := { name := "ythggpjpmjhaidaadoor", sum := "c320287ba1343749661749ca4985f4597175d588f9601e5642f0c9c2adc2c2c6", checked := Tryd.checked }
namespace Rows
def none {H : Type} : Left H := { results := [], args := [] }

/- WHAT THE LISTED PACKAGE-LEVEL VARIABLES READ AS WHEN THE CALL BEGINS. Each datum BY PROGRAM (the guide's laid-datum.mjs) off the statement by which the dump's own 'gosem.cut.vars' lays the variable. In a bare row this is a premise. The card (YthggpjpmjhaidaaDoorCards.lean) ties it to the program's text. -/
def laid_errors_errorType {H : Type} : DataW H := .iface "internal/reflectlite.rtype" (.agg [.ptr (.lit (.string [101, 114, 114, 111, 114]))])

/-- 'edenlaw6.WangDecides': WHATEVER THE INPUT: true; the input reads as it did. -/
def wangDecidesSpec : ChangeSpec := { name := "wangDecides", fn := fun _ => fun
  | [d1, d2] => { results := [.lit (.bool true)], args := [d1, d2] }
  | _ => none }
def wangDecidesRow : OpenClaim := { program := "ythggpjpmjhaidaadoor", sum := "c320287ba1343749661749ca4985f4597175d588f9601e5642f0c9c2adc2c2c6", func := "eden/edenlaw6.WangDecides", spec := "wangDecides", inPlace := ["internal/reflectlite.ValueOf", "(internal/reflectlite.Value).Type", "(internal/reflectlite.Value).IsNil", "internal/reflectlite.TypeOf", "(internal/reflectlite.Value).Elem", "(internal/reflectlite.Value).Set"], unfollowed := true, recurses := true, named := ["errors.errorType"], plainKeys := false, apart := false, laid := [("errors.errorType", laid_errors_errorType)] }
def WangDecidesSaid : Prop := wangDecidesRow.holds Tryd.pinned (OpenSpec.ofChange wangDecidesSpec)

/-- ITS FALSE NEIGHBOUR: 'it returns false'. Refute it at one input. -/
def wangDecidesWrong : ChangeSpec := { name := "wangDecides", fn := fun _ => fun
  | [d1, d2] => { results := [.lit (.bool false)], args := [d1, d2] }
  | _ => none }
def WangDecidesWrongFalsely : Prop := wangDecidesRow.holds Tryd.pinned (OpenSpec.ofChange wangDecidesWrong)

/-- 'edenlaw6.GrowWords': WHATEVER THE INPUT: true; the input reads as it did. -/
def growWordsSpec : ChangeSpec := { name := "growWords", fn := fun _ => fun
  | [d1, d2, d3] => { results := [.lit (.bool true)], args := [d1, d2, d3] }
  | _ => none }
def growWordsRow : OpenClaim := { program := "ythggpjpmjhaidaadoor", sum := "c320287ba1343749661749ca4985f4597175d588f9601e5642f0c9c2adc2c2c6", func := "eden/edenlaw6.GrowWords", spec := "growWords", inPlace := ["internal/reflectlite.ValueOf", "(internal/reflectlite.Value).Type", "(internal/reflectlite.Value).IsNil", "internal/reflectlite.TypeOf", "(internal/reflectlite.Value).Elem", "(internal/reflectlite.Value).Set", "internal/abi.NoEscape"], unfollowed := true, recurses := true, named := ["errors.errorType"], plainKeys := false, apart := false, laid := [("errors.errorType", laid_errors_errorType)] }
def GrowWordsSaid : Prop := growWordsRow.holds Tryd.pinned (OpenSpec.ofChange growWordsSpec)

/-- ITS FALSE NEIGHBOUR: 'it returns false'. Refute it at one input. -/
def growWordsWrong : ChangeSpec := { name := "growWords", fn := fun _ => fun
  | [d1, d2, d3] => { results := [.lit (.bool false)], args := [d1, d2, d3] }
  | _ => none }
def GrowWordsWrongFalsely : Prop := growWordsRow.holds Tryd.pinned (OpenSpec.ofChange growWordsWrong)

/-- 'edenlaw6.GrowLetters': WHATEVER THE INPUT: true; the input reads as it did. -/
def growLettersSpec : ChangeSpec := { name := "growLetters", fn := fun _ => fun
  | [d1, d2, d3, d4] => { results := [.lit (.bool true)], args := [d1, d2, d3, d4] }
  | _ => none }
def growLettersRow : OpenClaim := { program := "ythggpjpmjhaidaadoor", sum := "c320287ba1343749661749ca4985f4597175d588f9601e5642f0c9c2adc2c2c6", func := "eden/edenlaw6.GrowLetters", spec := "growLetters", inPlace := ["internal/reflectlite.ValueOf", "(internal/reflectlite.Value).Type", "(internal/reflectlite.Value).IsNil", "internal/reflectlite.TypeOf", "(internal/reflectlite.Value).Elem", "(internal/reflectlite.Value).Set"], unfollowed := true, recurses := true, named := ["errors.errorType"], plainKeys := false, apart := false, laid := [("errors.errorType", laid_errors_errorType)] }
def GrowLettersSaid : Prop := growLettersRow.holds Tryd.pinned (OpenSpec.ofChange growLettersSpec)

/-- ITS FALSE NEIGHBOUR: 'it returns false'. Refute it at one input. -/
def growLettersWrong : ChangeSpec := { name := "growLetters", fn := fun _ => fun
  | [d1, d2, d3, d4] => { results := [.lit (.bool false)], args := [d1, d2, d3, d4] }
  | _ => none }
def GrowLettersWrongFalsely : Prop := growLettersRow.holds Tryd.pinned (OpenSpec.ofChange growLettersWrong)

/-- 'edenlaw6.WangFits': WHATEVER THE INPUT: true; the input reads as it did. -/
def wangFitsSpec : ChangeSpec := { name := "wangFits", fn := fun _ => fun
  | [d1, d2, d3, d4, d5] => { results := [.lit (.bool true)], args := [d1, d2, d3, d4, d5] }
  | _ => none }
def wangFitsRow : OpenClaim := { program := "ythggpjpmjhaidaadoor", sum := "c320287ba1343749661749ca4985f4597175d588f9601e5642f0c9c2adc2c2c6", func := "eden/edenlaw6.WangFits", spec := "wangFits", inPlace := ["internal/reflectlite.ValueOf", "(internal/reflectlite.Value).Type", "(internal/reflectlite.Value).IsNil", "internal/reflectlite.TypeOf", "(internal/reflectlite.Value).Elem", "(internal/reflectlite.Value).Set"], unfollowed := true, recurses := true, named := ["errors.errorType"], plainKeys := false, apart := false, laid := [("errors.errorType", laid_errors_errorType)] }
def WangFitsSaid : Prop := wangFitsRow.holds Tryd.pinned (OpenSpec.ofChange wangFitsSpec)

/-- ITS FALSE NEIGHBOUR: 'it returns false'. Refute it at one input. -/
def wangFitsWrong : ChangeSpec := { name := "wangFits", fn := fun _ => fun
  | [d1, d2, d3, d4, d5] => { results := [.lit (.bool false)], args := [d1, d2, d3, d4, d5] }
  | _ => none }
def WangFitsWrongFalsely : Prop := wangFitsRow.holds Tryd.pinned (OpenSpec.ofChange wangFitsWrong)

/-- 'edenlaw6.SpinsCounts': WHATEVER THE INPUT: true; the input reads as it did. -/
def spinsCountsSpec : ChangeSpec := { name := "spinsCounts", fn := fun _ => fun
  | [d1, d2, d3] => { results := [.lit (.bool true)], args := [d1, d2, d3] }
  | _ => none }
def spinsCountsRow : OpenClaim := { program := "ythggpjpmjhaidaadoor", sum := "c320287ba1343749661749ca4985f4597175d588f9601e5642f0c9c2adc2c2c6", func := "eden/edenlaw6.SpinsCounts", spec := "spinsCounts", inPlace := ["internal/reflectlite.ValueOf", "(internal/reflectlite.Value).Type", "(internal/reflectlite.Value).IsNil", "internal/reflectlite.TypeOf", "(internal/reflectlite.Value).Elem", "(internal/reflectlite.Value).Set"], unfollowed := true, recurses := true, named := ["errors.errorType"], plainKeys := false, apart := false, laid := [("errors.errorType", laid_errors_errorType)] }
def SpinsCountsSaid : Prop := spinsCountsRow.holds Tryd.pinned (OpenSpec.ofChange spinsCountsSpec)

/-- ITS FALSE NEIGHBOUR: 'it returns false'. Refute it at one input. -/
def spinsCountsWrong : ChangeSpec := { name := "spinsCounts", fn := fun _ => fun
  | [d1, d2, d3] => { results := [.lit (.bool false)], args := [d1, d2, d3] }
  | _ => none }
def SpinsCountsWrongFalsely : Prop := spinsCountsRow.holds Tryd.pinned (OpenSpec.ofChange spinsCountsWrong)

/- THE SECOND FORM. 'bulk': how many values and letters a reading holds, each counted each time it is reached (what is shared counts as often as it is met; a slice's spare places count too). A statement '..UptoSaid' is the law's where the arguments, and the package variables that the reading takes, are together of bulk at most 1048576: NARROWER than '..Said'. Prove '..Said' where nothing that the law and all that it calls make is longer than what came in: it says more and counts as full. Else prove '..UptoSaid'. A law counts once. -/
mutual
def uptoBulk {H : Type} : DataW H → Nat
  | .lit (.string bytes) => bytes.length + 1
  | .lit _ => 1
  | .nil => 1
  | .ptr d => uptoBulk d + 1
  | .slice elems spare => uptoBulkAll elems + uptoBulkAll spare + 1
  | .agg parts => uptoBulkAll parts + 1
  | .iface _ d => uptoBulk d + 1
  | .map entries => uptoBulkEntries entries + 1
  | .held _ => 1
def uptoBulkAll {H : Type} : List (DataW H) → Nat
  | [] => 0
  | d :: r => uptoBulk d + uptoBulkAll r
def uptoBulkEntries {H : Type} : List (Lit × DataW H) → Nat
  | [] => 0
  | x :: r => uptoBulkEntry x + uptoBulkEntries r
def uptoBulkEntry {H : Type} : Lit × DataW H → Nat
  | (.string bytes, d) => bytes.length + uptoBulk d + 1
  | (_, d) => uptoBulk d + 1
 end
def uptoSmall : (H : Type) → List (DataW H) → Bool := fun _ ds => decide (uptoBulkAll ds ≤ 1048576)
def OpenSpec.upto (s : _root_.Go.ChangeSpec) : _root_.Go.OpenSpec := { _root_.Go.OpenSpec.ofChange s with cond := some uptoSmall }

/-- 'edenlaw6.WangDecides', WHERE WHAT IT READS IS OF BULK AT MOST 1048576: true; the input reads as it did. -/
def wangDecidesUptoRow : OpenClaim := { program := "ythggpjpmjhaidaadoor", sum := "c320287ba1343749661749ca4985f4597175d588f9601e5642f0c9c2adc2c2c6", func := "eden/edenlaw6.WangDecides", spec := "wangDecides", inPlace := ["internal/reflectlite.ValueOf", "(internal/reflectlite.Value).Type", "(internal/reflectlite.Value).IsNil", "internal/reflectlite.TypeOf", "(internal/reflectlite.Value).Elem", "(internal/reflectlite.Value).Set"], unfollowed := true, recurses := true, named := ["errors.errorType"], plainKeys := false, apart := false, laid := [("errors.errorType", laid_errors_errorType)], narrowed := true }
def WangDecidesUptoSaid : Prop := wangDecidesUptoRow.holds Tryd.pinned (OpenSpec.upto wangDecidesSpec)

/-- 'edenlaw6.GrowWords', WHERE WHAT IT READS IS OF BULK AT MOST 1048576: true; the input reads as it did. -/
def growWordsUptoRow : OpenClaim := { program := "ythggpjpmjhaidaadoor", sum := "c320287ba1343749661749ca4985f4597175d588f9601e5642f0c9c2adc2c2c6", func := "eden/edenlaw6.GrowWords", spec := "growWords", inPlace := ["internal/reflectlite.ValueOf", "(internal/reflectlite.Value).Type", "(internal/reflectlite.Value).IsNil", "internal/reflectlite.TypeOf", "(internal/reflectlite.Value).Elem", "(internal/reflectlite.Value).Set", "internal/abi.NoEscape"], unfollowed := true, recurses := true, named := ["errors.errorType"], plainKeys := false, apart := false, laid := [("errors.errorType", laid_errors_errorType)], narrowed := true }
def GrowWordsUptoSaid : Prop := growWordsUptoRow.holds Tryd.pinned (OpenSpec.upto growWordsSpec)

/-- 'edenlaw6.GrowLetters', WHERE WHAT IT READS IS OF BULK AT MOST 1048576: true; the input reads as it did. -/
def growLettersUptoRow : OpenClaim := { program := "ythggpjpmjhaidaadoor", sum := "c320287ba1343749661749ca4985f4597175d588f9601e5642f0c9c2adc2c2c6", func := "eden/edenlaw6.GrowLetters", spec := "growLetters", inPlace := ["internal/reflectlite.ValueOf", "(internal/reflectlite.Value).Type", "(internal/reflectlite.Value).IsNil", "internal/reflectlite.TypeOf", "(internal/reflectlite.Value).Elem", "(internal/reflectlite.Value).Set"], unfollowed := true, recurses := true, named := ["errors.errorType"], plainKeys := false, apart := false, laid := [("errors.errorType", laid_errors_errorType)], narrowed := true }
def GrowLettersUptoSaid : Prop := growLettersUptoRow.holds Tryd.pinned (OpenSpec.upto growLettersSpec)

/-- 'edenlaw6.WangFits', WHERE WHAT IT READS IS OF BULK AT MOST 1048576: true; the input reads as it did. -/
def wangFitsUptoRow : OpenClaim := { program := "ythggpjpmjhaidaadoor", sum := "c320287ba1343749661749ca4985f4597175d588f9601e5642f0c9c2adc2c2c6", func := "eden/edenlaw6.WangFits", spec := "wangFits", inPlace := ["internal/reflectlite.ValueOf", "(internal/reflectlite.Value).Type", "(internal/reflectlite.Value).IsNil", "internal/reflectlite.TypeOf", "(internal/reflectlite.Value).Elem", "(internal/reflectlite.Value).Set"], unfollowed := true, recurses := true, named := ["errors.errorType"], plainKeys := false, apart := false, laid := [("errors.errorType", laid_errors_errorType)], narrowed := true }
def WangFitsUptoSaid : Prop := wangFitsUptoRow.holds Tryd.pinned (OpenSpec.upto wangFitsSpec)

/-- 'edenlaw6.SpinsCounts', WHERE WHAT IT READS IS OF BULK AT MOST 1048576: true; the input reads as it did. -/
def spinsCountsUptoRow : OpenClaim := { program := "ythggpjpmjhaidaadoor", sum := "c320287ba1343749661749ca4985f4597175d588f9601e5642f0c9c2adc2c2c6", func := "eden/edenlaw6.SpinsCounts", spec := "spinsCounts", inPlace := ["internal/reflectlite.ValueOf", "(internal/reflectlite.Value).Type", "(internal/reflectlite.Value).IsNil", "internal/reflectlite.TypeOf", "(internal/reflectlite.Value).Elem", "(internal/reflectlite.Value).Set"], unfollowed := true, recurses := true, named := ["errors.errorType"], plainKeys := false, apart := false, laid := [("errors.errorType", laid_errors_errorType)], narrowed := true }
def SpinsCountsUptoSaid : Prop := spinsCountsUptoRow.holds Tryd.pinned (OpenSpec.upto spinsCountsSpec)

end Rows
end Go.Proofs.YthggpjpmjhaidaaDoor
