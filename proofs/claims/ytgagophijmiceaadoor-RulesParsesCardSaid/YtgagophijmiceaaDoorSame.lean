/- edensame.Error, in the forms that the laws' walks meet. -/
import Derived.Test.YtgagophijmiceaaDoorTold
namespace Go.Proofs.YtgagophijmiceaaDoor
set_option linter.unusedSimpArgs false
set_option linter.unusedVariables false
open Go.RowKit
namespace Tld
/-- The error told: true. -/
theorem same_self (n : Int) (w : World) (hg : Laid w) (h : -1000 ≤ n ∧ n ≤ 1000) :
    Calls Tryd.prog 10 #[errV n, .int .i64 n] w fun e w' => e = .returned (.bool true) ∧ Below w.heap.size w w' := by
  have := same_any n n w hg h.1 h.2
  rw [beq_self_eq_true] at this
  exact this
theorem same_iface (n : Int) (w : World) (hg : Laid w) (h : -1000 ≤ n ∧ n ≤ 1000) (h0 : n ≠ 0) :
    Calls Tryd.prog 10 #[.iface 59 (.int .i64 n), .int .i64 n] w fun e w' => e = .returned (.bool true) ∧ Below w.heap.size w w' := by
  rw [← errV_some h0]; exact same_self n w hg h
theorem same_nil (w : World) (hg : Laid w) :
    Calls Tryd.prog 10 #[.nilIface, .int .i64 0] w fun e w' => e = .returned (.bool true) ∧ Below w.heap.size w w' := by
  rw [← errV_zero (n := 0) rfl]; exact same_self 0 w hg (by omega)
end Tld
end Go.Proofs.YtgagophijmiceaaDoor
