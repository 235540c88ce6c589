/- WALK: plane.becomes. -/
import Derived.Test.YtgagophijmiceaaDoorBlCk
import Derived.Test.YtgagophijmiceaaDoorBlS
import Derived.Test.YtgagophijmiceaaDoorPnG
namespace Go.Proofs.YtgagophijmiceaaDoor
set_option linter.unusedSimpArgs false
set_option linter.unusedVariables false
open Go.RowKit
namespace Pn
open Tld Mem Bl

/-- A rule's seven cells. -/
def rulP (K B S st ra : Int) (ta : Option Addr) (tn tc : Nat) (tu : ByteArray) : List Value := [.int .i64 K, .int .i64 B, .int .i64 S, .int .i64 st, .int .i64 ra, .slice ta tn tc, .string tu]
theorem bit9_fin : ∀ i : Fin 10, ∀ v : Fin 512, bits .and .i64 ((v.val : Int) / 2 ^ i.val) 1 = ((bitN v.val i.val : Nat) : Int) := by decide +kernel
theorem bit9_of {v i : Nat} (hi : i < 10) (hv : v < 512) : bits .and .i64 ((v : Int) / 2 ^ i) 1 = ((bitN v i : Nat) : Int) := bit9_fin ⟨i, hi⟩ ⟨v, hv⟩

end Pn
end Go.Proofs.YtgagophijmiceaaDoor
