/- PATTERNS AS TEXTS, plain: a pattern drawn, a rune a cell; digits, the first ahead. -/
import Derived.Test.YtgagophijmiceaaDoorPnE
import Derived.Test.YtgagophijmiceaaDoorPwPl
import Derived.Laws.Cover4
namespace Go.Proofs.YtgagophijmiceaaDoor
set_option linter.unusedSimpArgs false
set_option linter.unusedVariables false
namespace Pw
open Bl Pn
open Go.RowKit

/-- The runes of a drawing, by their place. -/
def rnN (W : Nat) (f : Nat → Nat → Nat) (k : Nat) : Nat := if k % (W + 1) = W then 10 else if f (k % (W + 1)) (k / (W + 1)) = 1 then 9679 else 183
/-- A rune's bytes. -/
def rb (n : Nat) : List UInt8 := if n = 10 then [10] else if n = 9679 then [226, 151, 143] else [194, 183]
/-- The bytes of the first runes. -/
def drB (W : Nat) (f : Nat → Nat → Nat) : Nat → List UInt8
  | 0 => []
  | k + 1 => drB W f k ++ rb (rnN W f k)
def drawS (W H : Nat) (f : Nat → Nat → Nat) : List UInt8 := drB W f (H * (W + 1))
theorem rnN_some (W : Nat) (f : Nat → Nat → Nat) (k : Nat) : rnN W f k = 10 ∨ rnN W f k = 9679 ∨ rnN W f k = 183 := by
  unfold rnN
  split
  · exact .inl rfl
  · split
    · exact .inr (.inl rfl)
    · exact .inr (.inr rfl)
theorem rnN_cell {W x y : Nat} (f : Nat → Nat → Nat) (hx : x < W) : rnN W f (y * (W + 1) + x) = if f x y = 1 then 9679 else 183 := by
  unfold rnN
  rw [at_mod (show x < W + 1 by omega), at_div (show x < W + 1 by omega), if_neg (by omega)]
theorem rnN_end {W y : Nat} (f : Nat → Nat → Nat) : rnN W f (y * (W + 1) + W) = 10 := by
  unfold rnN
  rw [at_mod (show W < W + 1 by omega), if_pos rfl]
theorem rb_len (n : Nat) : (rb n).length ≤ 3 := by
  unfold rb
  split
  · decide
  · split <;> decide
theorem drB_len (W : Nat) (f : Nat → Nat → Nat) : ∀ k, (drB W f k).length ≤ 3 * k
  | 0 => Nat.le_refl _
  | k + 1 => by
    have h1 := drB_len W f k
    have h2 := rb_len (rnN W f k)
    rw [drB, List.length_append]
    omega
theorem encode_rb {n : Nat} (h : n = 10 ∨ n = 9679 ∨ n = 183) : Utf8.encode (n : Int) = ⟨(rb n).toArray⟩ := by
  rcases h with rfl | rfl | rfl <;> decide
theorem runes_eq (W : Nat) (f : Nat → Nat → Nat) : ∀ k, runesBytes (lstN k (rnN W f)) = ⟨(drB W f k).toArray⟩
  | 0 => rfl
  | k + 1 => by
    have h1 := runes_eq W f k
    unfold runesBytes at h1 ⊢
    rw [lstN_succ, List.foldl_append, h1]
    show ByteArray.mk (drB W f k).toArray ++ Utf8.encode (rnN W f k : Int) = _
    rw [encode_rb (rnN_some W f k), drB]
    apply ByteArray.ext
    simp
theorem draw_nums {W H x y n : Nat} (hx : x < W) (hy : y < H) (hn : n = W * H) (hW : W ≤ 100) (hH : H ≤ 100) :
    ∃ q k : Nat, q = y * W ∧ k = y * W + x ∧ k < n ∧ wrap64 ((y : Int) * (W : Int)) = (q : Int) ∧ wrap64 ((q : Int) + (x : Int)) = (k : Int) ∧ wrap64 ((x : Int) + 1) = ((x + 1 : Nat) : Int) := by
  have h1 := at_lt hx hy
  have h2 : W * H ≤ 100 * 100 := Nat.mul_le_mul hW hH
  refine ⟨y * W, y * W + x, rfl, rfl, by rw [hn]; exact h1, wr_nat (by push_cast; rfl) (by omega), ?_, wr_nat (by push_cast; rfl) (by omega)⟩
  generalize y * W = q at *
  exact wr_nat (by push_cast; rfl) (by omega)
/-- The digits ahead of the last one. -/
def pre (c : Nat) : List UInt8 := if c < 10 then [] else Lib.decDigits (c / 10)
theorem pre_last (n : Nat) : pre n ++ [UInt8.ofNat (48 + n % 10)] = Lib.decDigits n := by
  unfold pre
  by_cases h : n < 10
  · rw [if_pos h, Lib.decDigits, dif_pos h, Nat.mod_eq_of_lt h]
    rfl
  · rw [if_neg h]
    conv => rhs; rw [Lib.decDigits, dif_neg h]
theorem pre_next {c : Nat} (h : 10 ≤ c) : pre c = pre (c / 10) ++ [UInt8.ofNat (48 + c / 10 % 10)] := by
  rw [pre_last]
  unfold pre
  rw [if_neg (by omega)]
end Pw
end Go.Proofs.YtgagophijmiceaaDoor
