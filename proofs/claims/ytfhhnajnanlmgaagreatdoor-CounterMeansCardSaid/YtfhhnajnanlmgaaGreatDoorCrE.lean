/- WALK: edensame.Fractions: two lists of fractions that are the same. -/
import Derived.Test.YtfhhnajnanlmgaaGreatDoorCrF
import Derived.Laws.StructEq
namespace Go.Proofs.YtfhhnajnanlmgaaGreatDoor
set_option linter.unusedSimpArgs false
set_option linter.unusedVariables false
open Go.RowKit
namespace Cr
open Tld Mem

def fz (zs : List Int) (i j : Nat) : Int := zs.getD (2 * i + j) 0
theorem rows_own {w : World} {B n : Nat} {a : Option Addr} {c : Nat} {zs : List Int} (h : w.ownsRow B 75 2 (.slice a n c) n (zs.map (Value.int .i64))) : Mem.Rows w a n 2 (fun i j => .int .i64 (fz zs i j)) := by
  intro i hi
  have hl := h.1
  rw [List.length_map] at hl
  rcases h.2 with ⟨hv, h0⟩ | ⟨g, cap, cur, hv, hB, hg, hnc, hcm, hcs, ht⟩
  · omega
  · cases hv
    refine ⟨g, 0, rfl, (Array.getElem?_eq_some_iff.1 hg).1, fun j hj => ?_⟩
    have h1 : w.cell? ⟨g, 0 + i * 2 + j, none⟩ = cur[0 + i * 2 + j]? := by simp [World.cell?, hg]
    rw [h1]
    have h3 : (cur.toList.take (n * 2))[2 * i + j]? = (zs.map (Value.int .i64))[2 * i + j]? := by rw [ht]
    rw [List.getElem?_take_of_lt (by omega), Array.getElem?_toList, List.getElem?_map, List.getElem?_eq_getElem (by omega)] at h3
    rw [show 0 + i * 2 + j = 2 * i + j by omega, h3]
    dsimp only [Option.map_some]
    unfold fz
    rw [List.getD_eq_getElem?_getD, List.getElem?_eq_getElem (by omega)]
    rfl

theorem below_dn {B : Nat} {w w' : World} (h : Below B w w') (n : Nat) : Below B w (w'.drewN n) := ⟨h.os, h.tape, h.output, h.size, h.block⟩
end Cr
end Go.Proofs.YtfhhnajnanlmgaaGreatDoor
