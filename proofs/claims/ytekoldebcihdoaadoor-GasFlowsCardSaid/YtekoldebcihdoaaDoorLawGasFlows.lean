/- THE LAW GasFlows: its three cases joined. -/
import Derived.Test.YtekoldebcihdoaaDoorGfR
import Derived.Test.YtekoldebcihdoaaDoorGfZ
namespace Go.Proofs.YtekoldebcihdoaaDoor
set_option linter.unusedSimpArgs false
set_option linter.unusedVariables false
open Go.RowKit
namespace Gs
open Tld Mem
theorem gasFlows_any (K W H : Int) (a : Option Addr) (n c : Nat) (zs : List Int) (ca : Option Addr) (cn cc : Nat) (cs : List Int) (m : Int) (w : World) (hZ : Ints.Is w a n zs) (hC : Ints.Is w ca cn cs) (hL : Tld.Laid w) :
    Calls Tryd.prog 3 #[gas K W H a n c, .slice ca cn cc, .int .i64 m] w fun e w' => e = .returned (.bool true) ∧ Below w.heap.size w w' := by
  by_cases hg : gfault K W H zs = 0
  · obtain ⟨hsd, _, _⟩ := gfault_zero hg
    obtain ⟨hk, hw0, _, hh0, _⟩ := hsd
    have hk0 : 0 ≤ K := by omega
    obtain ⟨K, rfl⟩ := Int.eq_ofNat_of_zero_le hk0
    obtain ⟨W, rfl⟩ := Int.eq_ofNat_of_zero_le (show 0 ≤ W by omega)
    obtain ⟨H, rfl⟩ := Int.eq_ofNat_of_zero_le (show 0 ≤ H by omega)
    by_cases hf : rfault K W H zs cs m = 0
    · obtain ⟨m, rfl⟩ := Int.eq_ofNat_of_zero_le (rfault_zero hf).2.1
      exact gasFlows_z K W H a n c zs ca cn cc cs m w hZ hC hL hg hf
    · exact gasFlows_r K W H a n c zs ca cn cc cs m w hZ hC hL hg hf
  · exact gasFlows_bad K W H a n c zs ca cn cc cs m w hZ hC hL hg
end Gs
end Go.Proofs.YtekoldebcihdoaaDoor
