/-
  No cell of these rows narrows 'for every input' (looked for: loops, veiled, ifaces, maps, wideKeys, modest, calm, conditions, laid).
  DERIVED. THE GIVEN ROWS OF THIS SEAT. 4 by the template 'for every input the law returns true; each argument reads behind the call as it read before'; 0 by the template 'total and deterministic' (their statements: YthggpjpmjhaidaaTotals.lean).
  GIVEN WITH THE SEED: the statements are not yours to turn. If you find one false, say at which input.
  Laid BY PROGRAM, IN A SANDBOX (cutbox-rows.mjs): the forced cells as the released guide's own fill.sh prints them over the translation 84c2c7c752714181… (all of the seat's roots in one cut). By AI agents, Wed Nov 11 2026. No macro, syntax, notation, axiom, sorry.
-/
import Derived.Test.YthggpjpmjhaidaaChecked
import GoSem.Claim
import GoSem.ClaimJoined
import GoSem.ClaimMapViews
import Derived.JoinedTies
import Derived.KernelRfl
namespace Go.Proofs.Ythggpjpmjhaidaa
/- THE CELL 'sum', in the pinned program and in every row, IS THE sha256 OF THE DUMP (.gsa) THAT YthggpjpmjhaidaaProg.lean LOADS. Nothing in Lean hashes anything: it is a label: what it is worth is what the hold of that sum in a sandbox is worth. -/
noncomputable def Try.pinned : Pinned := { name := "ythggpjpmjhaidaa", sum := "84c2c7c752714181bea15677e61013f1e442ca0e23bf5f2b59b7f6573e50b9f1", checked := Try.checked }
namespace Rows
def none {H : Type} : Left H := { results := [], args := [] }

/-- 'edenlaw6.GrowSquares': WHATEVER THE INPUT: true; the input reads as it did. -/
def growSquaresSpec : ChangeSpec := { name := "growSquares", fn := fun _ => fun
  | [d] => { results := [.lit (.bool true)], args := [d] }
  | _ => none }
def growSquaresRow : OpenClaim := { program := "ythggpjpmjhaidaa", sum := "84c2c7c752714181bea15677e61013f1e442ca0e23bf5f2b59b7f6573e50b9f1", func := "eden/edenlaw6.GrowSquares", spec := "growSquares", unfollowed := true, recurses := true, plainKeys := false, apart := false }
def GrowSquaresSaid : Prop := growSquaresRow.holds Try.pinned (OpenSpec.ofChange growSquaresSpec)

/-- ITS FALSE NEIGHBOUR: 'it returns false'. Refute it at one input. -/
def growSquaresWrong : ChangeSpec := { name := "growSquares", fn := fun _ => fun
  | [d] => { results := [.lit (.bool false)], args := [d] }
  | _ => none }
def GrowSquaresWrongFalsely : Prop := growSquaresRow.holds Try.pinned (OpenSpec.ofChange growSquaresWrong)

/-- 'edenlaw6.WangPlane': WHATEVER THE INPUT: true; the input reads as it did. -/
def wangPlaneSpec : ChangeSpec := { name := "wangPlane", fn := fun _ => fun
  | [d1, d2, d3, d4, d5, d6, d7] => { results := [.lit (.bool true)], args := [d1, d2, d3, d4, d5, d6, d7] }
  | _ => none }
def wangPlaneRow : OpenClaim := { program := "ythggpjpmjhaidaa", sum := "84c2c7c752714181bea15677e61013f1e442ca0e23bf5f2b59b7f6573e50b9f1", func := "eden/edenlaw6.WangPlane", spec := "wangPlane", unfollowed := true, recurses := true, plainKeys := false, apart := false }
def WangPlaneSaid : Prop := wangPlaneRow.holds Try.pinned (OpenSpec.ofChange wangPlaneSpec)

/-- ITS FALSE NEIGHBOUR: 'it returns false'. Refute it at one input. -/
def wangPlaneWrong : ChangeSpec := { name := "wangPlane", fn := fun _ => fun
  | [d1, d2, d3, d4, d5, d6, d7] => { results := [.lit (.bool false)], args := [d1, d2, d3, d4, d5, d6, d7] }
  | _ => none }
def WangPlaneWrongFalsely : Prop := wangPlaneRow.holds Try.pinned (OpenSpec.ofChange wangPlaneWrong)

/-- 'edenlaw6.SpinsDual': WHATEVER THE INPUT: true; the input reads as it did. -/
def spinsDualSpec : ChangeSpec := { name := "spinsDual", fn := fun _ => fun
  | [d1, d2] => { results := [.lit (.bool true)], args := [d1, d2] }
  | _ => none }
def spinsDualRow : OpenClaim := { program := "ythggpjpmjhaidaa", sum := "84c2c7c752714181bea15677e61013f1e442ca0e23bf5f2b59b7f6573e50b9f1", func := "eden/edenlaw6.SpinsDual", spec := "spinsDual", unfollowed := true, recurses := true, plainKeys := false, apart := false }
def SpinsDualSaid : Prop := spinsDualRow.holds Try.pinned (OpenSpec.ofChange spinsDualSpec)

/-- ITS FALSE NEIGHBOUR: 'it returns false'. Refute it at one input. -/
def spinsDualWrong : ChangeSpec := { name := "spinsDual", fn := fun _ => fun
  | [d1, d2] => { results := [.lit (.bool false)], args := [d1, d2] }
  | _ => none }
def SpinsDualWrongFalsely : Prop := spinsDualRow.holds Try.pinned (OpenSpec.ofChange spinsDualWrong)

/-- 'edenlaw6.GrowFree': WHATEVER THE INPUT: true; the input reads as it did. -/
def growFreeSpec : ChangeSpec := { name := "growFree", fn := fun _ => fun
  | [d1, d2, d3, d4, d5] => { results := [.lit (.bool true)], args := [d1, d2, d3, d4, d5] }
  | _ => none }
def growFreeRow : OpenClaim := { program := "ythggpjpmjhaidaa", sum := "84c2c7c752714181bea15677e61013f1e442ca0e23bf5f2b59b7f6573e50b9f1", func := "eden/edenlaw6.GrowFree", spec := "growFree", inPlace := ["internal/abi.NoEscape"], unfollowed := true, recurses := true, plainKeys := false, apart := false }
def GrowFreeSaid : Prop := growFreeRow.holds Try.pinned (OpenSpec.ofChange growFreeSpec)

/-- ITS FALSE NEIGHBOUR: 'it returns false'. Refute it at one input. -/
def growFreeWrong : ChangeSpec := { name := "growFree", fn := fun _ => fun
  | [d1, d2, d3, d4, d5] => { results := [.lit (.bool false)], args := [d1, d2, d3, d4, d5] }
  | _ => none }
def GrowFreeWrongFalsely : Prop := growFreeRow.holds Try.pinned (OpenSpec.ofChange growFreeWrong)

/- THE SECOND FORM. 'bulk': how many values and letters a reading holds, each counted each time it is reached (what is shared counts as often as it is met; a slice's spare places count too). A statement '..UptoSaid' is the law's where the arguments, and the package variables that the reading takes, are together of bulk at most 1048576: NARROWER than '..Said'. Prove '..Said' where nothing that the law and all that it calls make is longer than what came in: it says more and counts as full. Else prove '..UptoSaid'. A law counts once. -/
mutual
def uptoBulk {H : Type} : DataW H → Nat
  | .lit (.string bytes) => bytes.length + 1
  | .lit _ => 1
  | .nil => 1
  | .ptr d => uptoBulk d + 1
  | .slice elems spare => uptoBulkAll elems + uptoBulkAll spare + 1
  | .agg parts => uptoBulkAll parts + 1
  | .iface _ d => uptoBulk d + 1
  | .map entries => uptoBulkEntries entries + 1
  | .held _ => 1
def uptoBulkAll {H : Type} : List (DataW H) → Nat
  | [] => 0
  | d :: r => uptoBulk d + uptoBulkAll r
def uptoBulkEntries {H : Type} : List (Lit × DataW H) → Nat
  | [] => 0
  | x :: r => uptoBulkEntry x + uptoBulkEntries r
def uptoBulkEntry {H : Type} : Lit × DataW H → Nat
  | (.string bytes, d) => bytes.length + uptoBulk d + 1
  | (_, d) => uptoBulk d + 1
 end
def uptoSmall : (H : Type) → List (DataW H) → Bool := fun _ ds => decide (uptoBulkAll ds ≤ 1048576)
def OpenSpec.upto (s : _root_.Go.ChangeSpec) : _root_.Go.OpenSpec := { _root_.Go.OpenSpec.ofChange s with cond := some uptoSmall }

/-- 'edenlaw6.GrowSquares', WHERE WHAT IT READS IS OF BULK AT MOST 1048576: true; the input reads as it did. -/
def growSquaresUptoRow : OpenClaim := { program := "ythggpjpmjhaidaa", sum := "84c2c7c752714181bea15677e61013f1e442ca0e23bf5f2b59b7f6573e50b9f1", func := "eden/edenlaw6.GrowSquares", spec := "growSquares", unfollowed := true, recurses := true, plainKeys := false, apart := false, narrowed := true }
def GrowSquaresUptoSaid : Prop := growSquaresUptoRow.holds Try.pinned (OpenSpec.upto growSquaresSpec)

/-- 'edenlaw6.WangPlane', WHERE WHAT IT READS IS OF BULK AT MOST 1048576: true; the input reads as it did. -/
def wangPlaneUptoRow : OpenClaim := { program := "ythggpjpmjhaidaa", sum := "84c2c7c752714181bea15677e61013f1e442ca0e23bf5f2b59b7f6573e50b9f1", func := "eden/edenlaw6.WangPlane", spec := "wangPlane", unfollowed := true, recurses := true, plainKeys := false, apart := false, narrowed := true }
def WangPlaneUptoSaid : Prop := wangPlaneUptoRow.holds Try.pinned (OpenSpec.upto wangPlaneSpec)

/-- 'edenlaw6.SpinsDual', WHERE WHAT IT READS IS OF BULK AT MOST 1048576: true; the input reads as it did. -/
def spinsDualUptoRow : OpenClaim := { program := "ythggpjpmjhaidaa", sum := "84c2c7c752714181bea15677e61013f1e442ca0e23bf5f2b59b7f6573e50b9f1", func := "eden/edenlaw6.SpinsDual", spec := "spinsDual", unfollowed := true, recurses := true, plainKeys := false, apart := false, narrowed := true }
def SpinsDualUptoSaid : Prop := spinsDualUptoRow.holds Try.pinned (OpenSpec.upto spinsDualSpec)

/-- 'edenlaw6.GrowFree', WHERE WHAT IT READS IS OF BULK AT MOST 1048576: true; the input reads as it did. -/
def growFreeUptoRow : OpenClaim := { program := "ythggpjpmjhaidaa", sum := "84c2c7c752714181bea15677e61013f1e442ca0e23bf5f2b59b7f6573e50b9f1", func := "eden/edenlaw6.GrowFree", spec := "growFree", inPlace := ["internal/abi.NoEscape"], unfollowed := true, recurses := true, plainKeys := false, apart := false, narrowed := true }
def GrowFreeUptoSaid : Prop := growFreeUptoRow.holds Try.pinned (OpenSpec.upto growFreeSpec)

end Rows
end Go.Proofs.Ythggpjpmjhaidaa
