/- WALK: edensame.Codes: two machines that are the same. -/
import Derived.Test.YtfhhnajnanlmgaaGreatDoorRdY
import Derived.Laws.StructEq
namespace Go.Proofs.YtfhhnajnanlmgaaGreatDoor
set_option linter.unusedSimpArgs false
set_option linter.unusedVariables false
open Go.RowKit
namespace Rd
open Tld Mem Cr

set_option maxHeartbeats 4000000 in
set_option maxRecDepth 1000000 in
theorem csame_any (a b : Option Addr) (n c d : Nat) (F : Nat → Nat → Int) (w : World) (hn : n ≤ 9223372036854775807) (hA : Mem.Rows w a n 4 (fun i j => .int .i64 (F i j))) (hB : Mem.Rows w b n 4 (fun i j => .int .i64 (F i j))) :
    Calls Tryz.prog 8 #[.slice a n c, .slice b n d] w fun e w' => e = .returned (.bool true) ∧ Below w.heap.size w w' := by
  have HA := Lib.hid hA
  have HB := Lib.hid hB
  clear hA hB
  go_enter Tryz.func8, Tryz.ntmps8
  go_wp2_with fail
  go_loopw [5] (fun v wr => ∃ i : Nat, i ≤ n ∧ v = .int .i64 i ∧ Below w.heap.size w wr) (fun v _ => n - (RowKit.intOf v).toNat)
  case atStart => exact ⟨0, Nat.zero_le _, rfl, Below.refl _ _⟩
  case round =>
    obtain ⟨i, hi, rfl, hb⟩ := hrel
    have HBL := Lib.hid hb
    clear hb
    by_cases hlt : i < n
    · obtain ⟨b1, o1, rfl, _, r1⟩ := HA.out.below HBL.out (Nat.le_refl _) i hlt
      obtain ⟨b2, o2, rfl, _, r2⟩ := HB.out.below HBL.out (Nat.le_refl _) i hlt
      have p0 := r1 0 (by omega)
      have p1 := r1 1 (by omega)
      have p2 := r1 2 (by omega)
      have p3 := r1 3 (by omega)
      have q0 := r2 0 (by omega)
      have q1 := r2 1 (by omega)
      have q2 := r2 2 (by omega)
      have q3 := r2 3 (by omega)
      dsimp only at p0 p1 p2 p3 q0 q1 q2 q3
      rw [Nat.add_zero] at p0 q0
      clear r1 r2
      generalize F i 0 = x at *
      generalize F i 1 = y at *
      generalize F i 2 = z at *
      generalize F i 3 = u at *
      have hi2 : (i : Int) < (n : Int) := by omega
      have HI := Lib.hid hlt
      go_upto_region 6 with fail
      go_big_quiet (fail)
      go_wp2_with fail
      go_roundw
      case rel => exact ⟨i + 1, HI.out, by go_num, below_q HBL.out _⟩
      case measure => have := HI.out; simp [RowKit.intOf]; omega
    · have hnl : ¬ (i : Int) < (n : Int) := by omega
      go_wp2_with fail
      go_ret
      exact ⟨rfl, HBL.out⟩
end Rd
end Go.Proofs.YtfhhnajnanlmgaaGreatDoor
