/- edenref1.Ints: are two lists of numbers the same? -/
import Derived.Test.YtekoldebcihdoaaDoorChecked
import Derived.Test.YtekoldebcihdoaaDoorOps
import Derived.WalkSpells
import Derived.WalkLawsBesides
import Derived.Lib.Hide
namespace Go.Proofs.YtekoldebcihdoaaDoor
set_option linter.unusedSimpArgs false
set_option linter.unusedVariables false
open Go.RowKit
namespace Ints
open Mem

/-- A slice of ints that can be read: its numbers. -/
structure Is (w : World) (a : Option Addr) (n : Nat) (zs : List Int) : Prop where
  len : zs.length = n
  cells : Cells w a n (fun i => .int .i64 (zs.getD i 0))
  le : n ≤ maxLen
theorem Is.below {w w' : World} {a : Option Addr} {n : Nat} {zs : List Int} {B : Nat} (h : Is w a n zs) (hb : Below B w w') (hB : w.heap.size ≤ B) : Is w' a n zs := ⟨h.len, h.cells.below hb hB, h.le⟩
theorem Is.keep {w w' : World} {a : Option Addr} {n : Nat} {zs : List Int} (h : Is w a n zs) (hb : Below w.heap.size w w') : Is w' a n zs := h.below hb (Nat.le_refl _)
theorem Is.nil (w : World) : Is w none 0 [] := ⟨rfl, fun i h => absurd h (Nat.not_lt_zero _), Nat.zero_le _⟩

/-- The first i numbers are the same. -/
def AllEq (xs ys : List Int) (i : Nat) : Prop := ∀ j, j < i → xs.getD j 0 = ys.getD j 0
theorem AllEq.next {xs ys : List Int} {i : Nat} (h : AllEq xs ys i) (e : xs.getD i 0 = ys.getD i 0) : AllEq xs ys (i + 1) := fun j hj => by
  by_cases hji : j = i
  · rw [hji]; exact e
  · exact h j (by omega)

theorem same_of {xs ys : List Int} (h : xs.length = ys.length) (k : ∀ i, i < xs.length → xs.getD i 0 = ys.getD i 0) : xs = ys := by
  apply List.ext_getElem h
  intro i h1 h2
  have := k i h1
  rw [List.getD_eq_getElem?_getD, List.getD_eq_getElem?_getD, List.getElem?_eq_getElem h1, List.getElem?_eq_getElem h2] at this
  exact this

end Ints
end Go.Proofs.YtekoldebcihdoaaDoor
