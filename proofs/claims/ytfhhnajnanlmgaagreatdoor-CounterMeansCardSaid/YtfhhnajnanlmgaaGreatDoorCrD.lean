/- WALK: edenref1.Digits below 100. -/
import Derived.Test.YtfhhnajnanlmgaaGreatDoorCrO
namespace Go.Proofs.YtfhhnajnanlmgaaGreatDoor
set_option linter.unusedSimpArgs false
set_option linter.unusedVariables false
open Go.RowKit
namespace Cr
open Tld Mem

def dig1 (n : Nat) : List UInt8 := if n < 10 then [UInt8.ofNat (48 + n)] else [UInt8.ofNat (48 + n / 10), UInt8.ofNat (48 + n % 10)]

theorem cells1 (w : World) (T : TypeId) (c : UInt8) (v : Int) (hv : v = (c.toNat : Int)) : Mem.Cells (w.alloc (.cells #[.int .u8 v] T)) (some ⟨w.heap.size, 0, none⟩) (ByteArray.mk #[c]).size (fun i => .int .u8 ((((ByteArray.mk #[c]).data.toList.getD i 0).toNat : Nat) : Int)) := by
  intro i hi
  have h0 : i = 0 := by
    have : (ByteArray.mk #[c]).size = 1 := rfl
    omega
  subst h0
  have hr := row_alloc w T [.int .u8 v]
  refine ⟨w.heap.size, 0, rfl, hr.lt, ?_⟩
  have hc := hr.cell 0
  dsimp only [List.getElem?_cons_zero] at hc
  rw [Nat.add_zero]
  refine hc.trans ?_
  rw [hv]
  rfl
theorem byte_of {d : Nat} (hd : d < 10) : (48 + (d : Int)) = (((UInt8.ofNat (48 + d)).toNat : Nat) : Int) := by
  have : (UInt8.ofNat (48 + d)).toNat = 48 + d := by
    rw [UInt8.toNat_ofNat']
    omega
  rw [this]
  push_cast
  rfl

end Cr
end Go.Proofs.YtfhhnajnanlmgaaGreatDoor
