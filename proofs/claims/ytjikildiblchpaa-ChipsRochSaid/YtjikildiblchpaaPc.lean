/- PIECES of a function's code, found by their regions' numbers: a great walk in several theorems. -/
import Derived.WalkKit
namespace Go.Proofs.Ytjikildiblchpaa
set_option linter.unusedSimpArgs false
set_option linter.unusedVariables false
namespace Pc
/-- The code from region n on, in the sequence in which it stands. -/
def frm (n : Nat) : Code → Option Code
  | .seq (.region i o d) b => match i == n with
    | true => some (.seq (.region i o d) b)
    | false => frm n b
  | .seq a b => match frm n a with
    | some c => some c
    | none => frm n b
  | .block _ c => frm n c
  | .scope c => frm n c
  | .loop c => frm n c
  | .cond _ a b => match frm n a with
    | some c => some c
    | none => frm n b
  | _ => none
/-- Block n, whole. -/
def blk (n : Nat) : Code → Option Code
  | .block i c => match i == n with
    | true => some (.block i c)
    | false => blk n c
  | .seq a b => match blk n a with
    | some c => some c
    | none => blk n b
  | .scope c => blk n c
  | .loop c => blk n c
  | .cond _ a b => match blk n a with
    | some c => some c
    | none => blk n b
  | _ => none
end Pc
end Go.Proofs.Ytjikildiblchpaa
