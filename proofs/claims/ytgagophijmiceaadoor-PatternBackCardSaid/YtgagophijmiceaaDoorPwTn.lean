/- PATTERNS AS TEXTS, plain: the document's turns; the first of eight. -/
import Derived.Test.YtgagophijmiceaaDoorPnU
namespace Go.Proofs.YtgagophijmiceaaDoor
set_option linter.unusedSimpArgs false
set_option linter.unusedVariables false
namespace Pw
open Bl Pn

/-- Where a cell of a turned pattern comes from, as the document says. -/
def sA (W H k x y : Nat) : Nat := if k % 4 = 0 then x else if k % 4 = 1 then y else if k % 4 = 2 then W - 1 - x else W - 1 - y
def sB (W H k x y : Nat) : Nat := if k % 4 = 0 then y else if k % 4 = 1 then H - 1 - x else if k % 4 = 2 then H - 1 - y else x
/-- The document's turned pattern. -/
def rT (W H : Nat) (f : Nat → Nat → Nat) (k x y : Nat) : Nat := f (if 4 ≤ k then W - 1 - sA W H k x y else sA W H k x y) (sB W H k x y)
theorem mod4 (k : Nat) : k % 4 = 0 ∨ k % 4 = 1 ∨ k % 4 = 2 ∨ k % 4 = 3 := by omega
theorem sA_lt {W H k x y : Nat} (hx : x < qW W H (k % 4)) (hy : y < qH W H (k % 4)) : sA W H k x y < W ∧ sB W H k x y < H := by
  unfold sA sB
  unfold qW at hx
  unfold qH at hy
  rcases mod4 k with h | h | h | h <;> rw [h] at hx hy ⊢ <;> simp at hx hy ⊢ <;> omega
theorem rT_same {W H k x y : Nat} {f : Nat → Nat → Nat} (hx : x < qW W H (k % 4)) (hy : y < qH W H (k % 4)) : tF W H f k x y = rT W H f k x y := by
  have key : ∀ g : Nat → Nat → Nat, qF W H g (k % 4) x y = g (sA W H k x y) (sB W H k x y) := fun g => by
    unfold sA sB
    unfold qW at hx
    unfold qH at hy
    rcases mod4 k with h | h | h | h <;> rw [h] at hx hy ⊢ <;> simp [qF, quart, qH] at hx hy ⊢
    · congr 1
      omega
  unfold tF rT
  rw [key]
  by_cases h4 : 4 ≤ k
  · rw [if_pos h4, if_pos h4]
    rfl
  · rw [if_neg h4, if_neg h4]
theorem rT_flat {W H k : Nat} {f : Nat → Nat → Nat} : flat (qW W H (k % 4)) (qH W H (k % 4)) (tF W H f k) = flat (qW W H (k % 4)) (qH W H (k % 4)) (rT W H f k) := flat_congr fun x y hx hy => rT_same hx hy

/-- Is a list of cells ahead of another one? -/
def lessL : List Int → List Int → Int
  | [], [] => 0
  | [], _ :: _ => -1
  | _ :: _, [] => 1
  | a :: l, b :: m => if a < b then -1 else if b < a then 1 else lessL l m
/-- The order of patterns: a number below 0: the first one is ahead. -/
def ordP (W H : Nat) (zs : List Int) (W' H' : Nat) (zs' : List Int) : Int := if H < H' then -1 else if H' < H then 1 else if W < W' then -1 else if W' < W then 1 else lessL zs zs'
/-- The first of so many turns. -/
def canK (W H : Nat) (f : Nat → Nat → Nat) : Nat → Nat
  | 0 => 0
  | k + 1 => if ordP (qW W H ((k + 1) % 4)) (qH W H ((k + 1) % 4)) (flat (qW W H ((k + 1) % 4)) (qH W H ((k + 1) % 4)) (tF W H f (k + 1))) (qW W H (canK W H f k % 4)) (qH W H (canK W H f k % 4)) (flat (qW W H (canK W H f k % 4)) (qH W H (canK W H f k % 4)) (tF W H f (canK W H f k))) < 0 then k + 1 else canK W H f k
theorem canK_le (W H : Nat) (f : Nat → Nat → Nat) : ∀ k, canK W H f k ≤ k
  | 0 => Nat.le_refl _
  | k + 1 => by
    unfold canK
    split
    · exact Nat.le_refl _
    · exact Nat.le_succ_of_le (canK_le W H f k)
end Pw
end Go.Proofs.YtgagophijmiceaaDoor
