/- WALK: edensame.Fractions: two lists of fractions that are the same. -/
import Derived.Test.YtfhhnajnanlmgaaDoorCrF
import Derived.Laws.StructEq
namespace Go.Proofs.YtfhhnajnanlmgaaDoor
set_option linter.unusedSimpArgs false
set_option linter.unusedVariables false
open Go.RowKit
namespace Cr
open Tld Mem

def fz (zs : List Int) (i j : Nat) : Int := zs.getD (2 * i + j) 0
theorem rows_own {w : World} {B n : Nat} {a : Option Addr} {c : Nat} {zs : List Int} (h : w.ownsRow B 50 2 (.slice a n c) n (zs.map (Value.int .i64))) : Mem.Rows w a n 2 (fun i j => .int .i64 (fz zs i j)) := by
  intro i hi
  have hl := h.1
  rw [List.length_map] at hl
  rcases h.2 with ⟨hv, h0⟩ | ⟨g, cap, cur, hv, hB, hg, hnc, hcm, hcs, ht⟩
  · omega
  · cases hv
    refine ⟨g, 0, rfl, (Array.getElem?_eq_some_iff.1 hg).1, fun j hj => ?_⟩
    have h1 : w.cell? ⟨g, 0 + i * 2 + j, none⟩ = cur[0 + i * 2 + j]? := by simp [World.cell?, hg]
    rw [h1]
    have h3 : (cur.toList.take (n * 2))[2 * i + j]? = (zs.map (Value.int .i64))[2 * i + j]? := by rw [ht]
    rw [List.getElem?_take_of_lt (by omega), Array.getElem?_toList, List.getElem?_map, List.getElem?_eq_getElem (by omega)] at h3
    rw [show 0 + i * 2 + j = 2 * i + j by omega, h3]
    dsimp only [Option.map_some]
    unfold fz
    rw [List.getD_eq_getElem?_getD, List.getElem?_eq_getElem (by omega)]
    rfl

theorem below_dn {B : Nat} {w w' : World} (h : Below B w w') (n : Nat) : Below B w (w'.drewN n) := ⟨h.os, h.tape, h.output, h.size, h.block⟩
set_option maxHeartbeats 4000000 in
set_option maxRecDepth 1000000 in
theorem fsame_any (a b : Option Addr) (n c d : Nat) (F : Nat → Nat → Int) (w : World) (hn : n ≤ 1000) (hA : Mem.Rows w a n 2 (fun i j => .int .i64 (F i j))) (hB : Mem.Rows w b n 2 (fun i j => .int .i64 (F i j))) :
    Calls Tryd.prog 15 #[.slice a n c, .slice b n d] w fun e w' => e = .returned (.bool true) ∧ Below w.heap.size w w' := by
  have HA := Lib.hid hA
  have HB := Lib.hid hB
  clear hA hB
  go_enter Tryd.func15, Tryd.ntmps15
  go_wp2_with fail
  go_loopw [5] (fun v wr => ∃ i : Nat, i ≤ n ∧ v = .int .i64 i ∧ Below w.heap.size w wr) (fun v _ => n - (RowKit.intOf v).toNat)
  case atStart => exact ⟨0, Nat.zero_le _, rfl, Below.refl _ _⟩
  case round =>
    obtain ⟨i, hi, rfl, hb⟩ := hrel
    have HBL := Lib.hid hb
    clear hb
    by_cases hlt : i < n
    · obtain ⟨b1, o1, rfl, _, r1⟩ := HA.out.below HBL.out (Nat.le_refl _) i hlt
      obtain ⟨b2, o2, rfl, _, r2⟩ := HB.out.below HBL.out (Nat.le_refl _) i hlt
      have p0 := r1 0 (by omega)
      have p1 := r1 1 (by omega)
      have q0 := r2 0 (by omega)
      have q1 := r2 1 (by omega)
      dsimp only at p0 p1 q0 q1
      rw [Nat.add_zero] at p0 q0
      clear r1 r2
      generalize F i 0 = x at *
      generalize F i 1 = y at *
      have hi2 : (i : Int) < (n : Int) := by omega
      have HI := Lib.hid hlt
      go_upto_region 6 with fail
      go_big_quiet (fail)
      go_wp2_with fail
      go_roundw
      case rel => exact ⟨i + 1, HI.out, by go_num, below_dn HBL.out _⟩
      case measure => have := HI.out; simp [RowKit.intOf]; omega
    · have hnl : ¬ (i : Int) < (n : Int) := by omega
      go_wp2_with fail
      go_ret
      exact ⟨rfl, HBL.out⟩
end Cr
end Go.Proofs.YtfhhnajnanlmgaaDoor
