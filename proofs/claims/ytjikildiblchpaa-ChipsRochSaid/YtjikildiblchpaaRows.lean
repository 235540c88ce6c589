/-
  No cell of these rows narrows 'for every input' (looked for: loops, veiled, ifaces, maps, wideKeys, modest, calm, conditions, laid).
  DERIVED. THE GIVEN ROWS OF THIS SEAT. 4 by the template 'for every input the law returns true; each argument reads behind the call as it read before'; 0 by the template 'total and deterministic' (their statements: YtjikildiblchpaaTotals.lean).
  GIVEN WITH THE SEED: the statements are not yours to turn. If you find one false, say at which input.
  Laid BY PROGRAM, IN A SANDBOX (cutbox-rows.mjs): the forced cells as the released guide's own fill.sh prints them over the translation a0f3710ce0858750… (all of the seat's roots in one cut). By AI agents, Wed Nov 11 2026. No macro, syntax, notation, axiom, sorry.
-/
import Derived.Test.YtjikildiblchpaaChecked
import GoSem.Claim
import GoSem.ClaimJoined
import GoSem.ClaimMapViews
import Derived.JoinedTies
import Derived.KernelRfl
namespace Go.Proofs.Ytjikildiblchpaa
/- THE CELL 'sum', in the pinned program and in every row, IS THE sha256 OF THE DUMP (.gsa) THAT YtjikildiblchpaaProg.lean LOADS. Nothing in Lean hashes anything: it is a label: what it is worth is what the hold of that sum in a sandbox is worth. -/
noncomputable def Try.pinned : Pinned := { name := "ytjikildiblchpaa", sum := "a0f3710ce0858750f0daaf8fd9440b5a87ef3fd396ace954fd05e736c3c33588", checked := Try.checked }
namespace Rows
def none {H : Type} : Left H := { results := [], args := [] }

/-- 'edenlaw5.RotorTrees': WHATEVER THE INPUT: true; the input reads as it did. -/
def rotorTreesSpec : ChangeSpec := { name := "rotorTrees", fn := fun _ => fun
  | [d1, d2, d3, d4, d5, d6] => { results := [.lit (.bool true)], args := [d1, d2, d3, d4, d5, d6] }
  | _ => none }
def rotorTreesRow : OpenClaim := { program := "ytjikildiblchpaa", sum := "a0f3710ce0858750f0daaf8fd9440b5a87ef3fd396ace954fd05e736c3c33588", func := "eden/edenlaw5.RotorTrees", spec := "rotorTrees", unfollowed := true, recurses := true, apart := false }
def RotorTreesSaid : Prop := rotorTreesRow.holds Try.pinned (OpenSpec.ofChange rotorTreesSpec)

/-- ITS FALSE NEIGHBOUR: 'it returns false'. Refute it at one input. -/
def rotorTreesWrong : ChangeSpec := { name := "rotorTrees", fn := fun _ => fun
  | [d1, d2, d3, d4, d5, d6] => { results := [.lit (.bool false)], args := [d1, d2, d3, d4, d5, d6] }
  | _ => none }
def RotorTreesWrongFalsely : Prop := rotorTreesRow.holds Try.pinned (OpenSpec.ofChange rotorTreesWrong)

/-- 'edenlaw5.RotorOrder': WHATEVER THE INPUT: true; the input reads as it did. -/
def rotorOrderSpec : ChangeSpec := { name := "rotorOrder", fn := fun _ => fun
  | [d1, d2, d3, d4, d5] => { results := [.lit (.bool true)], args := [d1, d2, d3, d4, d5] }
  | _ => none }
def rotorOrderRow : OpenClaim := { program := "ytjikildiblchpaa", sum := "a0f3710ce0858750f0daaf8fd9440b5a87ef3fd396ace954fd05e736c3c33588", func := "eden/edenlaw5.RotorOrder", spec := "rotorOrder", unfollowed := true, recurses := true, apart := false }
def RotorOrderSaid : Prop := rotorOrderRow.holds Try.pinned (OpenSpec.ofChange rotorOrderSpec)

/-- ITS FALSE NEIGHBOUR: 'it returns false'. Refute it at one input. -/
def rotorOrderWrong : ChangeSpec := { name := "rotorOrder", fn := fun _ => fun
  | [d1, d2, d3, d4, d5] => { results := [.lit (.bool false)], args := [d1, d2, d3, d4, d5] }
  | _ => none }
def RotorOrderWrongFalsely : Prop := rotorOrderRow.holds Try.pinned (OpenSpec.ofChange rotorOrderWrong)

/-- 'edenlaw5.ChipsFires': WHATEVER THE INPUT: true; the input reads as it did. -/
def chipsFiresSpec : ChangeSpec := { name := "chipsFires", fn := fun _ => fun
  | [d1, d2, d3, d4, d5] => { results := [.lit (.bool true)], args := [d1, d2, d3, d4, d5] }
  | _ => none }
def chipsFiresRow : OpenClaim := { program := "ytjikildiblchpaa", sum := "a0f3710ce0858750f0daaf8fd9440b5a87ef3fd396ace954fd05e736c3c33588", func := "eden/edenlaw5.ChipsFires", spec := "chipsFires", unfollowed := true, recurses := true, apart := false }
def ChipsFiresSaid : Prop := chipsFiresRow.holds Try.pinned (OpenSpec.ofChange chipsFiresSpec)

/-- ITS FALSE NEIGHBOUR: 'it returns false'. Refute it at one input. -/
def chipsFiresWrong : ChangeSpec := { name := "chipsFires", fn := fun _ => fun
  | [d1, d2, d3, d4, d5] => { results := [.lit (.bool false)], args := [d1, d2, d3, d4, d5] }
  | _ => none }
def ChipsFiresWrongFalsely : Prop := chipsFiresRow.holds Try.pinned (OpenSpec.ofChange chipsFiresWrong)

/-- 'edenlaw5.ChipsRoch': WHATEVER THE INPUT: true; the input reads as it did. -/
def chipsRochSpec : ChangeSpec := { name := "chipsRoch", fn := fun _ => fun
  | [d1, d2, d3] => { results := [.lit (.bool true)], args := [d1, d2, d3] }
  | _ => none }
def chipsRochRow : OpenClaim := { program := "ytjikildiblchpaa", sum := "a0f3710ce0858750f0daaf8fd9440b5a87ef3fd396ace954fd05e736c3c33588", func := "eden/edenlaw5.ChipsRoch", spec := "chipsRoch", unfollowed := true, recurses := true, apart := false }
def ChipsRochSaid : Prop := chipsRochRow.holds Try.pinned (OpenSpec.ofChange chipsRochSpec)

/-- ITS FALSE NEIGHBOUR: 'it returns false'. Refute it at one input. -/
def chipsRochWrong : ChangeSpec := { name := "chipsRoch", fn := fun _ => fun
  | [d1, d2, d3] => { results := [.lit (.bool false)], args := [d1, d2, d3] }
  | _ => none }
def ChipsRochWrongFalsely : Prop := chipsRochRow.holds Try.pinned (OpenSpec.ofChange chipsRochWrong)

/- THE SECOND FORM. 'bulk': how many values and letters a reading holds, each counted each time it is reached (what is shared counts as often as it is met; a slice's spare places count too). A statement '..UptoSaid' is the law's where the arguments, and the package variables that the reading takes, are together of bulk at most 1048576: NARROWER than '..Said'. Prove '..Said' where nothing that the law and all that it calls make is longer than what came in: it says more and counts as full. Else prove '..UptoSaid'. A law counts once. -/
mutual
def uptoBulk {H : Type} : DataW H → Nat
  | .lit (.string bytes) => bytes.length + 1
  | .lit _ => 1
  | .nil => 1
  | .ptr d => uptoBulk d + 1
  | .slice elems spare => uptoBulkAll elems + uptoBulkAll spare + 1
  | .agg parts => uptoBulkAll parts + 1
  | .iface _ d => uptoBulk d + 1
  | .map entries => uptoBulkEntries entries + 1
  | .held _ => 1
def uptoBulkAll {H : Type} : List (DataW H) → Nat
  | [] => 0
  | d :: r => uptoBulk d + uptoBulkAll r
def uptoBulkEntries {H : Type} : List (Lit × DataW H) → Nat
  | [] => 0
  | x :: r => uptoBulkEntry x + uptoBulkEntries r
def uptoBulkEntry {H : Type} : Lit × DataW H → Nat
  | (.string bytes, d) => bytes.length + uptoBulk d + 1
  | (_, d) => uptoBulk d + 1
 end
def uptoSmall : (H : Type) → List (DataW H) → Bool := fun _ ds => decide (uptoBulkAll ds ≤ 1048576)
def OpenSpec.upto (s : _root_.Go.ChangeSpec) : _root_.Go.OpenSpec := { _root_.Go.OpenSpec.ofChange s with cond := some uptoSmall }

/-- 'edenlaw5.RotorTrees', WHERE WHAT IT READS IS OF BULK AT MOST 1048576: true; the input reads as it did. -/
def rotorTreesUptoRow : OpenClaim := { program := "ytjikildiblchpaa", sum := "a0f3710ce0858750f0daaf8fd9440b5a87ef3fd396ace954fd05e736c3c33588", func := "eden/edenlaw5.RotorTrees", spec := "rotorTrees", unfollowed := true, recurses := true, apart := false, narrowed := true }
def RotorTreesUptoSaid : Prop := rotorTreesUptoRow.holds Try.pinned (OpenSpec.upto rotorTreesSpec)

/-- 'edenlaw5.RotorOrder', WHERE WHAT IT READS IS OF BULK AT MOST 1048576: true; the input reads as it did. -/
def rotorOrderUptoRow : OpenClaim := { program := "ytjikildiblchpaa", sum := "a0f3710ce0858750f0daaf8fd9440b5a87ef3fd396ace954fd05e736c3c33588", func := "eden/edenlaw5.RotorOrder", spec := "rotorOrder", unfollowed := true, recurses := true, apart := false, narrowed := true }
def RotorOrderUptoSaid : Prop := rotorOrderUptoRow.holds Try.pinned (OpenSpec.upto rotorOrderSpec)

/-- 'edenlaw5.ChipsFires', WHERE WHAT IT READS IS OF BULK AT MOST 1048576: true; the input reads as it did. -/
def chipsFiresUptoRow : OpenClaim := { program := "ytjikildiblchpaa", sum := "a0f3710ce0858750f0daaf8fd9440b5a87ef3fd396ace954fd05e736c3c33588", func := "eden/edenlaw5.ChipsFires", spec := "chipsFires", unfollowed := true, recurses := true, apart := false, narrowed := true }
def ChipsFiresUptoSaid : Prop := chipsFiresUptoRow.holds Try.pinned (OpenSpec.upto chipsFiresSpec)

/-- 'edenlaw5.ChipsRoch', WHERE WHAT IT READS IS OF BULK AT MOST 1048576: true; the input reads as it did. -/
def chipsRochUptoRow : OpenClaim := { program := "ytjikildiblchpaa", sum := "a0f3710ce0858750f0daaf8fd9440b5a87ef3fd396ace954fd05e736c3c33588", func := "eden/edenlaw5.ChipsRoch", spec := "chipsRoch", unfollowed := true, recurses := true, apart := false, narrowed := true }
def ChipsRochUptoSaid : Prop := chipsRochUptoRow.holds Try.pinned (OpenSpec.upto chipsRochSpec)

end Rows
end Go.Proofs.Ytjikildiblchpaa
