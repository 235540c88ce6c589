/- PATTERNS AS TEXTS, plain: a pattern by its runs. -/
import Derived.Test.YtgagophijmiceaaDoorPnG
import Derived.Lib.ItoaNum
namespace Go.Proofs.YtgagophijmiceaaDoor
set_option linter.unusedSimpArgs false
set_option linter.unusedVariables false
namespace Pw
open Bl

/-- A cell's tag. -/
def tag (c : Nat) : UInt8 := if c = 1 then 111 else 98
/-- A tag, so many times. -/
def item (n : Nat) (t : UInt8) : List UInt8 := if n = 0 then [] else if n = 1 then [t] else Lib.decDigits n ++ [t]
/-- How long a row is without its last empty cells. -/
def tlen (g : Nat → Nat) : Nat → Nat
  | 0 => 0
  | n + 1 => if g n = 0 then tlen g n else n + 1
theorem tlen_le (g : Nat → Nat) : ∀ n, tlen g n ≤ n
  | 0 => Nat.le_refl _
  | n + 1 => by
    unfold tlen
    split
    · exact Nat.le_succ_of_le (tlen_le g n)
    · exact Nat.le_refl _
/-- How many cells are alike from x on. -/
def runl (g : Nat → Nat) (c : Nat) : Nat → Nat → Nat
  | 0, _ => 0
  | k + 1, x => if g x = c then runl g c k (x + 1) + 1 else 0
theorem runl_le (g : Nat → Nat) (c : Nat) : ∀ k x, runl g c k x ≤ k
  | 0, _ => Nat.le_refl _
  | k + 1, x => by
    unfold runl
    have := runl_le g c k (x + 1)
    split <;> omega
theorem runl_same (g : Nat → Nat) (c : Nat) : ∀ k x j, j < runl g c k x → g (x + j) = c
  | 0, _, j, h => absurd h (Nat.not_lt_zero _)
  | k + 1, x, j, h => by
    unfold runl at h
    by_cases hc : g x = c
    · rw [if_pos hc] at h
      cases j with
      | zero => exact hc
      | succ j =>
        have := runl_same g c k (x + 1) j (by omega)
        rw [show x + (j + 1) = x + 1 + j by omega]
        exact this
    · rw [if_neg hc] at h
      exact absurd h (Nat.not_lt_zero _)
/-- The runs of a row. -/
def items (g : Nat → Nat) : Nat → Nat → Nat → List UInt8
  | 0, _, _ => []
  | k + 1, x, L => if x < L then item (runl g (g x) (L - x) x) (tag (g x)) ++ items g k (x + runl g (g x) (L - x) x) L else []
theorem runl_pos {g : Nat → Nat} {x L : Nat} (h : x < L) : 0 < runl g (g x) (L - x) x := by
  rw [show L - x = (L - x - 1) + 1 by omega]
  unfold runl
  rw [if_pos rfl]
  exact Nat.succ_pos _
theorem items_fuel (g : Nat → Nat) (L : Nat) : ∀ k m x, L - x ≤ k → L - x ≤ m → items g k x L = items g m x L
  | 0, 0, x, _, _ => rfl
  | 0, m + 1, x, h, _ => by
    unfold items
    rw [if_neg (by omega)]
  | k + 1, 0, x, _, h => by
    unfold items
    rw [if_neg (by omega)]
  | k + 1, m + 1, x, h, h2 => by
    unfold items
    by_cases hx : x < L
    · rw [if_pos hx, if_pos hx]
      have := runl_pos (g := g) hx
      rw [items_fuel g L k m _ (by omega) (by omega)]
    · rw [if_neg hx, if_neg hx]
/-- What is left to write of a row. -/
def itR (g : Nat → Nat) (x L : Nat) : List UInt8 := items g (L - x) x L
theorem itR_end {g : Nat → Nat} {x L : Nat} (h : L ≤ x) : itR g x L = [] := by
  unfold itR
  rw [Nat.sub_eq_zero_of_le h]
  rfl
theorem itR_next {g : Nat → Nat} {x L : Nat} (h : x < L) : itR g x L = item (runl g (g x) (L - x) x) (tag (g x)) ++ itR g (x + runl g (g x) (L - x) x) L := by
  unfold itR
  have hp := runl_pos (g := g) h
  rw [items_fuel g L (L - x) ((L - x) + 1) x (Nat.le_refl _) (by omega)]
  rw [items, if_pos h, items_fuel g L (L - x) (L - (x + runl g (g x) (L - x) x)) _ (by omega) (Nat.le_refl _)]
/-- What is left to write: so many rows, from row r on, so many rows apart from the last one that was written. -/
def rowsR (f : Nat → Nat → Nat) (W : Nat) : Nat → Nat → Nat → List UInt8
  | 0, _, _ => [33, 10]
  | k + 1, r, a => if tlen (fun x => f x r) W = 0 then rowsR f W k (r + 1) (a + 1) else item a 36 ++ (itR (fun x => f x r) 0 (tlen (fun x => f x r) W) ++ rowsR f W k (r + 1) 1)
/-- What stands ahead. -/
def headS (W H : Nat) : List UInt8 := [120, 32, 61, 32] ++ Lib.decDigits W ++ [44, 32, 121, 32, 61, 32] ++ Lib.decDigits H ++ [10]
/-- A pattern by its runs. -/
def runsS (W H : Nat) (f : Nat → Nat → Nat) : List UInt8 := headS W H ++ rowsR f W H 0 0
theorem dec_len {n : Nat} (h : n ≤ 999) : (Lib.decDigits n).length ≤ 3 := by
  rw [Lib.decDigits]
  split
  · simp
  · rw [Lib.decDigits]
    split
    · simp
    · rw [Lib.decDigits]
      rw [dif_pos (by omega)]
      simp
theorem dec_len2 {n : Nat} (h : n ≤ 99) : (Lib.decDigits n).length ≤ 2 := by
  rw [Lib.decDigits]
  split
  · simp
  · rw [Lib.decDigits]
    rw [dif_pos (by omega)]
    simp
theorem item_len {n : Nat} (t : UInt8) (h : n ≤ 999) : (item n t).length ≤ 2 * n ∧ (item n t).length ≤ 4 := by
  unfold item
  split
  · simp
  · split
    · simp; omega
    · have := dec_len h
      rw [List.length_append]
      simp
      constructor
      · by_cases h2 : n ≤ 99
        · have := dec_len2 h2; omega
        · omega
      · omega
theorem itR_len (g : Nat → Nat) (L : Nat) (hL : L ≤ 999) : ∀ k x, L - x ≤ k → (itR g x L).length ≤ 2 * (L - x)
  | 0, x, h => by rw [itR_end (by omega)]; exact Nat.zero_le _
  | k + 1, x, h => by
    by_cases hx : x < L
    · rw [itR_next hx, List.length_append]
      have hp := runl_pos (g := g) hx
      have hle := runl_le g (g x) (L - x) x
      have h1 := (item_len (n := runl g (g x) (L - x) x) (tag (g x)) (by omega)).1
      have h2 := itR_len g L hL k (x + runl g (g x) (L - x) x) (by omega)
      omega
    · rw [itR_end (by omega)]; exact Nat.zero_le _
theorem rowsR_len (f : Nat → Nat → Nat) (W : Nat) (hW : W ≤ 100) : ∀ k r a, a + k ≤ 999 → (rowsR f W k r a).length ≤ 204 * k + 2
  | 0, r, a, h => by simp [rowsR]
  | k + 1, r, a, h => by
    unfold rowsR
    split
    · have := rowsR_len f W hW k (r + 1) (a + 1) (by omega); omega
    · rw [List.length_append, List.length_append]
      have h1 := (item_len (n := a) 36 (by omega)).2
      have h2 := tlen_le (fun x => f x r) W
      have h3 := itR_len (fun x => f x r) (tlen (fun x => f x r) W) (by omega) _ 0 (Nat.le_refl _)
      have h4 := rowsR_len f W hW k (r + 1) 1 (by omega)
      omega
theorem head_len {W H : Nat} (hW : W ≤ 100) (hH : H ≤ 100) : (headS W H).length ≤ 17 := by
  unfold headS
  have h1 := dec_len (n := W) (by omega)
  have h2 := dec_len (n := H) (by omega)
  simp only [List.length_append, List.length_cons, List.length_nil]
  omega
theorem runsS_len {W H : Nat} {f : Nat → Nat → Nat} (hW : W ≤ 100) (hH : H ≤ 100) : (runsS W H f).length ≤ 21000 := by
  unfold runsS
  rw [List.length_append]
  have h1 := head_len hW hH
  have h2 := rowsR_len f W hW H 0 0 (by omega)
  omega
end Pw
end Go.Proofs.YtgagophijmiceaaDoor
