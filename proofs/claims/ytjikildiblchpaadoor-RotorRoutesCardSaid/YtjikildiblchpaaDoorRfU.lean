/- WALK of the document's answer: edenref6.Sum, of chips. -/
import Derived.Test.YtjikildiblchpaaDoorRtS
namespace Go.Proofs.YtjikildiblchpaaDoor
set_option linter.unusedSimpArgs false
set_option linter.unusedVariables false
open Go.RowKit Go.Lib
namespace Rt
open Tld Mem

set_option maxHeartbeats 8000000 in
set_option maxRecDepth 1000000 in
theorem rsum_any (ca : Option Addr) (n cc : Nat) (cs : List Int) (w : World) (hC : Ints.Is w ca n cs) (hn : n ≤ 10) (hz : ∀ k, k < n → cs.getD k 0 = (sgN cs k : Int) ∧ sgN cs k ≤ 10000) :
    Calls Tryd.prog 11 #[.slice ca n cc] w fun e w' => e = .returned (.int .i64 (sumN (sgN cs) n : Nat)) ∧ w' = w := by
  have HC := Lib.hid hC
  have HZ := Lib.hid hz
  clear hC hz
  go_enter Tryd.func11, Tryd.ntmps11
  go_wp2_with fail
  go_loopw [3, 4] (fun z u wr => ∃ k : Nat, k ≤ n ∧ z = .int .i64 (sumN (sgN cs) k : Nat) ∧ u = .int .i64 (k : Int) ∧ wr = w) (fun _ u _ => n - (intOf u).toNat)
  case atStart => exact ⟨0, Nat.zero_le _, rfl, rfl, rfl⟩
  case round =>
    obtain ⟨k, hkn, rfl, rfl, rfl⟩ := hrel
    by_cases hk : k < n
    · have hk2 : (k : Int) < (n : Int) := by omega
      obtain ⟨bz, oz, rfl, _, hcz⟩ := HC.out.cells k hk
      dsimp only at hcz
      rw [(HZ.out k hk).1] at hcz
      have hx := (HZ.out k hk).2
      have hs : sumN (sgN cs) k ≤ sumN (fun _ => 10000) k := sumN_le fun i hi => (HZ.out i (by omega)).2
      rw [sumN_const] at hs
      have HS : Hid (sumN (sgN cs) (k + 1) = sumN (sgN cs) k + sgN cs k) := rfl
      obtain ⟨t, ht⟩ : ∃ t, t = sumN (sgN cs) k := ⟨_, rfl⟩
      obtain ⟨x, hxx⟩ : ∃ x, x = sgN cs k := ⟨_, rfl⟩
      rw [← ht, ← hxx] at HS
      rw [← ht] at hs ⊢
      rw [← hxx] at hcz hx
      clear ht hxx
      have hf1 : (-9223372036854775808 : Int) ≤ (t : Int) + (x : Int) := by omega
      have hf2 : (t : Int) + (x : Int) ≤ 9223372036854775807 := by omega
      go_wp2_with fail
      go_roundw
      case rel => exact ⟨k + 1, by omega, by rw [HS.out]; go_num, by go_num, by trivial⟩
      case measure => simp [intOf]; omega
    · obtain rfl : k = n := by omega
      go_wp2_with fail
      go_ret
      exact ⟨rfl, rfl⟩
end Rt
end Go.Proofs.YtjikildiblchpaaDoor
