/-
  NARROWER THAN 'FOR EVERY INPUT', by the rows' own cells (each row's printed sentence says how): RotorRoutes: laid · ChipsRank: laid · ChipsReduce: laid.
  DERIVED. THE GIVEN ROWS OF THIS SEAT. 3 by the template 'for every input the law returns true; each argument reads behind the call as it read before'; 0 by the template 'total and deterministic' (their statements: YtjikildiblchpaaDoorTotals.lean).
  GIVEN WITH THE SEED: the statements are not yours to turn. If you find one false, say at which input.
  Laid BY PROGRAM, IN A SANDBOX (cutbox-rows.mjs): the forced cells as the released guide's own fill.sh prints them over the translation 13a6173a760de0d7… (all of the seat's roots in one cut). By AI agents, Wed Nov 11 2026. No macro, syntax, notation, axiom, sorry.
-/
import Derived.Test.YtjikildiblchpaaDoorChecked
import GoSem.Claim
import GoSem.ClaimJoined
import GoSem.ClaimMapViews
import Derived.JoinedTies
import Derived.KernelRfl
namespace Go.Proofs.YtjikildiblchpaaDoor
/- THE CELL 'sum', in the pinned program and in every row, IS THE sha256 OF THE DUMP (.gsa) THAT YtjikildiblchpaaDoorProg.lean LOADS. Nothing in Lean hashes anything: it is a label: what it is worth is what the hold of that sum in a sandbox is worth. -/
noncomputable def Tryd.pinned : Pinned := { name := "ytjikildiblchpaadoor", sum := "13a6173a760de0d7c77c52b378ffa81ebdc52832b696c5e44e5efcf03d0600a9", checked := Tryd.checked }
namespace Rows
def none {H : Type} : Left H := { results := [], args := [] }

/- WHAT THE LISTED PACKAGE-LEVEL VARIABLES READ AS WHEN THE CALL BEGINS. Each datum BY PROGRAM (the guide's laid-datum.mjs) off the statement by which the dump's own 'gosem.cut.vars' lays the variable. In a bare row this is a premise. The card (YtjikildiblchpaaDoorCards.lean) ties it to the program's text. -/
def laid_errors_errorType {H : Type} : DataW H := .iface "internal/reflectlite.rtype" (.agg [.ptr (.lit (.string [101, 114, 114, 111, 114]))])

/-- 'edenlaw5.RotorRoutes': WHATEVER THE INPUT: true; the input reads as it did. -/
def rotorRoutesSpec : ChangeSpec := { name := "rotorRoutes", fn := fun _ => fun
  | [d1, d2, d3, d4, d5] => { results := [.lit (.bool true)], args := [d1, d2, d3, d4, d5] }
  | _ => none }
def rotorRoutesRow : OpenClaim := { program := "ytjikildiblchpaadoor", sum := "13a6173a760de0d7c77c52b378ffa81ebdc52832b696c5e44e5efcf03d0600a9", func := "eden/edenlaw5.RotorRoutes", spec := "rotorRoutes", inPlace := ["internal/reflectlite.ValueOf", "(internal/reflectlite.Value).Type", "(internal/reflectlite.Value).IsNil", "internal/reflectlite.TypeOf", "(internal/reflectlite.Value).Elem", "(internal/reflectlite.Value).Set"], unfollowed := true, recurses := true, named := ["errors.errorType"], apart := false, laid := [("errors.errorType", laid_errors_errorType)] }
def RotorRoutesSaid : Prop := rotorRoutesRow.holds Tryd.pinned (OpenSpec.ofChange rotorRoutesSpec)

/-- ITS FALSE NEIGHBOUR: 'it returns false'. Refute it at one input. -/
def rotorRoutesWrong : ChangeSpec := { name := "rotorRoutes", fn := fun _ => fun
  | [d1, d2, d3, d4, d5] => { results := [.lit (.bool false)], args := [d1, d2, d3, d4, d5] }
  | _ => none }
def RotorRoutesWrongFalsely : Prop := rotorRoutesRow.holds Tryd.pinned (OpenSpec.ofChange rotorRoutesWrong)

/-- 'edenlaw5.ChipsRank': WHATEVER THE INPUT: true; the input reads as it did. -/
def chipsRankSpec : ChangeSpec := { name := "chipsRank", fn := fun _ => fun
  | [d1, d2] => { results := [.lit (.bool true)], args := [d1, d2] }
  | _ => none }
def chipsRankRow : OpenClaim := { program := "ytjikildiblchpaadoor", sum := "13a6173a760de0d7c77c52b378ffa81ebdc52832b696c5e44e5efcf03d0600a9", func := "eden/edenlaw5.ChipsRank", spec := "chipsRank", inPlace := ["internal/reflectlite.ValueOf", "(internal/reflectlite.Value).Type", "(internal/reflectlite.Value).IsNil", "internal/reflectlite.TypeOf", "(internal/reflectlite.Value).Elem", "(internal/reflectlite.Value).Set"], unfollowed := true, recurses := true, named := ["errors.errorType"], apart := false, laid := [("errors.errorType", laid_errors_errorType)] }
def ChipsRankSaid : Prop := chipsRankRow.holds Tryd.pinned (OpenSpec.ofChange chipsRankSpec)

/-- ITS FALSE NEIGHBOUR: 'it returns false'. Refute it at one input. -/
def chipsRankWrong : ChangeSpec := { name := "chipsRank", fn := fun _ => fun
  | [d1, d2] => { results := [.lit (.bool false)], args := [d1, d2] }
  | _ => none }
def ChipsRankWrongFalsely : Prop := chipsRankRow.holds Tryd.pinned (OpenSpec.ofChange chipsRankWrong)

/-- 'edenlaw5.ChipsReduce': WHATEVER THE INPUT: true; the input reads as it did. -/
def chipsReduceSpec : ChangeSpec := { name := "chipsReduce", fn := fun _ => fun
  | [d1, d2, d3, d4, d5] => { results := [.lit (.bool true)], args := [d1, d2, d3, d4, d5] }
  | _ => none }
def chipsReduceRow : OpenClaim := { program := "ytjikildiblchpaadoor", sum := "13a6173a760de0d7c77c52b378ffa81ebdc52832b696c5e44e5efcf03d0600a9", func := "eden/edenlaw5.ChipsReduce", spec := "chipsReduce", inPlace := ["internal/reflectlite.ValueOf", "(internal/reflectlite.Value).Type", "(internal/reflectlite.Value).IsNil", "internal/reflectlite.TypeOf", "(internal/reflectlite.Value).Elem", "(internal/reflectlite.Value).Set"], unfollowed := true, recurses := true, named := ["errors.errorType"], apart := false, laid := [("errors.errorType", laid_errors_errorType)] }
def ChipsReduceSaid : Prop := chipsReduceRow.holds Tryd.pinned (OpenSpec.ofChange chipsReduceSpec)

/-- ITS FALSE NEIGHBOUR: 'it returns false'. Refute it at one input. -/
def chipsReduceWrong : ChangeSpec := { name := "chipsReduce", fn := fun _ => fun
  | [d1, d2, d3, d4, d5] => { results := [.lit (.bool false)], args := [d1, d2, d3, d4, d5] }
  | _ => none }
def ChipsReduceWrongFalsely : Prop := chipsReduceRow.holds Tryd.pinned (OpenSpec.ofChange chipsReduceWrong)

/- THE SECOND FORM. 'bulk': how many values and letters a reading holds, each counted each time it is reached (what is shared counts as often as it is met; a slice's spare places count too). A statement '..UptoSaid' is the law's where the arguments, and the package variables that the reading takes, are together of bulk at most 1048576: NARROWER than '..Said'. Prove '..Said' where nothing that the law and all that it calls make is longer than what came in: it says more and counts as full. Else prove '..UptoSaid'. A law counts once. -/
mutual
def uptoBulk {H : Type} : DataW H → Nat
  | .lit (.string bytes) => bytes.length + 1
  | .lit _ => 1
  | .nil => 1
  | .ptr d => uptoBulk d + 1
  | .slice elems spare => uptoBulkAll elems + uptoBulkAll spare + 1
  | .agg parts => uptoBulkAll parts + 1
  | .iface _ d => uptoBulk d + 1
  | .map entries => uptoBulkEntries entries + 1
  | .held _ => 1
def uptoBulkAll {H : Type} : List (DataW H) → Nat
  | [] => 0
  | d :: r => uptoBulk d + uptoBulkAll r
def uptoBulkEntries {H : Type} : List (Lit × DataW H) → Nat
  | [] => 0
  | x :: r => uptoBulkEntry x + uptoBulkEntries r
def uptoBulkEntry {H : Type} : Lit × DataW H → Nat
  | (.string bytes, d) => bytes.length + uptoBulk d + 1
  | (_, d) => uptoBulk d + 1
 end
def uptoSmall : (H : Type) → List (DataW H) → Bool := fun _ ds => decide (uptoBulkAll ds ≤ 1048576)
def OpenSpec.upto (s : _root_.Go.ChangeSpec) : _root_.Go.OpenSpec := { _root_.Go.OpenSpec.ofChange s with cond := some uptoSmall }

/-- 'edenlaw5.RotorRoutes', WHERE WHAT IT READS IS OF BULK AT MOST 1048576: true; the input reads as it did. -/
def rotorRoutesUptoRow : OpenClaim := { program := "ytjikildiblchpaadoor", sum := "13a6173a760de0d7c77c52b378ffa81ebdc52832b696c5e44e5efcf03d0600a9", func := "eden/edenlaw5.RotorRoutes", spec := "rotorRoutes", inPlace := ["internal/reflectlite.ValueOf", "(internal/reflectlite.Value).Type", "(internal/reflectlite.Value).IsNil", "internal/reflectlite.TypeOf", "(internal/reflectlite.Value).Elem", "(internal/reflectlite.Value).Set"], unfollowed := true, recurses := true, named := ["errors.errorType"], apart := false, laid := [("errors.errorType", laid_errors_errorType)], narrowed := true }
def RotorRoutesUptoSaid : Prop := rotorRoutesUptoRow.holds Tryd.pinned (OpenSpec.upto rotorRoutesSpec)

/-- 'edenlaw5.ChipsRank', WHERE WHAT IT READS IS OF BULK AT MOST 1048576: true; the input reads as it did. -/
def chipsRankUptoRow : OpenClaim := { program := "ytjikildiblchpaadoor", sum := "13a6173a760de0d7c77c52b378ffa81ebdc52832b696c5e44e5efcf03d0600a9", func := "eden/edenlaw5.ChipsRank", spec := "chipsRank", inPlace := ["internal/reflectlite.ValueOf", "(internal/reflectlite.Value).Type", "(internal/reflectlite.Value).IsNil", "internal/reflectlite.TypeOf", "(internal/reflectlite.Value).Elem", "(internal/reflectlite.Value).Set"], unfollowed := true, recurses := true, named := ["errors.errorType"], apart := false, laid := [("errors.errorType", laid_errors_errorType)], narrowed := true }
def ChipsRankUptoSaid : Prop := chipsRankUptoRow.holds Tryd.pinned (OpenSpec.upto chipsRankSpec)

/-- 'edenlaw5.ChipsReduce', WHERE WHAT IT READS IS OF BULK AT MOST 1048576: true; the input reads as it did. -/
def chipsReduceUptoRow : OpenClaim := { program := "ytjikildiblchpaadoor", sum := "13a6173a760de0d7c77c52b378ffa81ebdc52832b696c5e44e5efcf03d0600a9", func := "eden/edenlaw5.ChipsReduce", spec := "chipsReduce", inPlace := ["internal/reflectlite.ValueOf", "(internal/reflectlite.Value).Type", "(internal/reflectlite.Value).IsNil", "internal/reflectlite.TypeOf", "(internal/reflectlite.Value).Elem", "(internal/reflectlite.Value).Set"], unfollowed := true, recurses := true, named := ["errors.errorType"], apart := false, laid := [("errors.errorType", laid_errors_errorType)], narrowed := true }
def ChipsReduceUptoSaid : Prop := chipsReduceUptoRow.holds Tryd.pinned (OpenSpec.upto chipsReduceSpec)

end Rows
end Go.Proofs.YtjikildiblchpaaDoor
