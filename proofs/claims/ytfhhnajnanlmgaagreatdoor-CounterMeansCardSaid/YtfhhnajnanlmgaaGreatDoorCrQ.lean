/- WALK: edenref5.Print: a machine's text. -/
import Derived.Test.YtfhhnajnanlmgaaGreatDoorCrD
namespace Go.Proofs.YtfhhnajnanlmgaaGreatDoor
set_option linter.unusedSimpArgs false
set_option linter.unusedVariables false
open Go.RowKit
namespace Cr
open Tld Mem

/-- A line's text. -/
def lineT (f : Nat → Nat → Int) (i : Nat) : List UInt8 :=
  if f i 0 = 1 then [105, 110, 99, 32] ++ dig1 (f i 1).toNat ++ [32] ++ dig1 (f i 2).toNat ++ [10]
  else if f i 0 = 2 then [100, 101, 99, 32] ++ dig1 (f i 1).toNat ++ [32] ++ dig1 (f i 2).toNat ++ [32] ++ dig1 (f i 3).toNat ++ [10]
  else [104, 97, 108, 116, 10]
def textT (f : Nat → Nat → Int) (i : Nat) : List UInt8 := (List.range i).flatMap (lineT f)
theorem textT_next (f : Nat → Nat → Int) (i : Nat) : textT f (i + 1) = textT f i ++ lineT f i := by
  unfold textT; rw [List.range_succ, List.flatMap_append]; simp
theorem okI_all {m i : Nat} {op a t e : Int} (h : okI m op a t e) (hi : i < m) : 0 ≤ a ∧ a ≤ 3 ∧ 0 ≤ t ∧ t < m ∧ 0 ≤ e ∧ e < m ∧ (op = 1 ∨ op = 2 ∨ op = 3) := by unfold okI at h; omega
theorem dig1_len (n : Nat) : (dig1 n).length ≤ 2 := by unfold dig1; split <;> simp
theorem lineT_len (f : Nat → Nat → Int) (i : Nat) : (lineT f i).length ≤ 20 := by
  have h1 := dig1_len (f i 1).toNat
  have h2 := dig1_len (f i 2).toNat
  have h3 := dig1_len (f i 3).toNat
  unfold lineT
  split
  · simp only [List.length_append, List.length_cons, List.length_nil]; omega
  · split
    · simp only [List.length_append, List.length_cons, List.length_nil]; omega
    · simp
theorem textT_len (f : Nat → Nat → Int) : ∀ i, (textT f i).length ≤ 20 * i
  | 0 => Nat.le_refl _
  | i + 1 => by
    have := textT_len f i
    have := lineT_len f i
    rw [textT_next, List.length_append]
    omega
theorem bapp (a b : List UInt8) : (ByteArray.mk a.toArray) ++ (ByteArray.mk b.toArray) = ByteArray.mk (a ++ b).toArray := by
  apply ByteArray.ext
  simp
