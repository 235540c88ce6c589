/- AN ERROR AS THE PROGRAM HANDS IT ON: nil, or its number. -/
import Derived.WalkKit
namespace Go.Proofs.YtgagophijmiceaaDoor
set_option linter.unusedSimpArgs false
set_option linter.unusedVariables false
namespace Tld
def errV (n : Int) : Value := if n = 0 then .nilIface else .iface 59 (.int .i64 n)
theorem errV_nil {n : Int} (h : n = 0) : Value.nilIface = errV n := by subst h; rfl
theorem errV_mk {n m : Int} (h : n = m) (h0 : m ≠ 0) : Value.iface 59 (.int .i64 m) = errV n := by subst h; unfold errV; rw [if_neg h0]
theorem errV_zero {n : Int} (h : n = 0) : errV n = Value.nilIface := by subst h; rfl
theorem errV_some {n : Int} (h : n ≠ 0) : errV n = .iface 59 (.int .i64 n) := by unfold errV; rw [if_neg h]
/-- A text and no error; or none, and the error 4. -/
def textV : Option (List UInt8) → Value
  | some l => .tuple #[.string ⟨l.toArray⟩, .nilIface]
  | none => .tuple #[.string ⟨#[]⟩, .iface 59 (.int .i64 4)]
theorem textV_some {o : Option (List UInt8)} {l : List UInt8} (h : o = some l) : textV o = .tuple #[.string ⟨l.toArray⟩, .nilIface] := by subst h; rfl
theorem textV_none {o : Option (List UInt8)} (h : o = none) : textV o = .tuple #[.string ⟨#[]⟩, .iface 59 (.int .i64 4)] := by subst h; rfl
end Tld
end Go.Proofs.YtgagophijmiceaaDoor
