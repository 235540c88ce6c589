/- PLAIN: what a table keeps, a step keeps: the sum over a torus, block by block. -/
import Derived.Test.YtgagophijmiceaaDoorBlPl
namespace Go.Proofs.YtgagophijmiceaaDoor
set_option linter.unusedSimpArgs false
set_option linter.unusedVariables false
namespace Bl
def sumN : Nat → (Nat → Nat) → Nat
  | 0, _ => 0
  | n + 1, f => sumN n f + f n
theorem sumN_congr {f g : Nat → Nat} : ∀ {n : Nat}, (∀ i, i < n → f i = g i) → sumN n f = sumN n g
  | 0, _ => rfl
  | n + 1, h => by
    unfold sumN
    rw [sumN_congr fun i hi => h i (by omega), h n (by omega)]
theorem sumN_add (f g : Nat → Nat) : ∀ (n : Nat), sumN n (fun i => f i + g i) = sumN n f + sumN n g
  | 0 => rfl
  | n + 1 => by
    have h := sumN_add f g n
    show sumN n (fun i => f i + g i) + (f n + g n) = (sumN n f + f n) + (sumN n g + g n)
    omega
theorem pair0 (f : Nat → Nat) : ∀ (m : Nat), sumN (2 * m) f = sumN m (fun j => f (2 * j) + f (2 * j + 1))
  | 0 => rfl
  | m + 1 => by
    have h := pair0 f m
    show sumN (2 * m) f + f (2 * m) + f (2 * m + 1) = sumN m (fun j => f (2 * j) + f (2 * j + 1)) + (f (2 * m) + f (2 * m + 1))
    omega
theorem pair1' (f : Nat → Nat) : ∀ (k : Nat), sumN (2 * k + 1) f = sumN k (fun j => f (2 * j + 1) + f (2 * j + 2)) + f 0
  | 0 => by simp [sumN]
  | k + 1 => by
    have h := pair1' f k
    show sumN (2 * k + 1) f + f (2 * k + 1) + f (2 * k + 2) = sumN k (fun j => f (2 * j + 1) + f (2 * j + 2)) + (f (2 * k + 1) + f (2 * k + 2)) + f 0
    omega
/-- A row's sum, block by block. -/
theorem row_sum {W ph : Nat} (f : Nat → Nat) (hW : W % 2 = 0) (hph : ph ≤ 1) : sumN W f = sumN (W / 2) (fun j => f (ph + 2 * j) + f (nxt W (ph + 2 * j) 1)) := by
  obtain ⟨m, rfl⟩ : ∃ m, W = 2 * m := ⟨W / 2, by omega⟩
  rw [show 2 * m / 2 = m from by omega]
  have hp : ph = 0 ∨ ph = 1 := by omega
  rcases hp with rfl | rfl
  · rw [pair0]
    refine sumN_congr fun j hj => ?_
    unfold nxt
    rw [if_pos (by omega), Nat.zero_add]
  · cases m with
    | zero => rfl
    | succ k =>
      rw [show 2 * (k + 1) = 2 * k + 1 + 1 from by omega, sumN, pair1' f k, sumN]
      have h1 : sumN k (fun j => f (1 + 2 * j) + f (nxt (2 * k + 1 + 1) (1 + 2 * j) 1)) = sumN k (fun j => f (2 * j + 1) + f (2 * j + 2)) := by
        refine sumN_congr fun j hj => ?_
        unfold nxt
        rw [if_pos (by omega), show 1 + 2 * j = 2 * j + 1 from by omega]
      rw [h1]
      have h2 : nxt (2 * k + 1 + 1) (1 + 2 * k) 1 = 0 := by unfold nxt; rw [if_neg (by omega)]
      rw [h2, show 1 + 2 * k = 2 * k + 1 from by omega]
      omega
def total (W H : Nat) (c : Nat → Nat → Nat) : Nat := sumN H (fun y => sumN W (fun x => c x y))
def four (c : Nat → Nat → Nat) (W H ox oy : Nat) : Nat := c ox oy + c (nxt W ox 1) oy + c ox (nxt H oy 1) + c (nxt W ox 1) (nxt H oy 1)
theorem total_blocks {W H ph : Nat} (c : Nat → Nat → Nat) (hW : W % 2 = 0) (hH : H % 2 = 0) (hph : ph ≤ 1) : total W H c = sumN (H / 2) (fun j => sumN (W / 2) (fun i => four c W H (ph + 2 * i) (ph + 2 * j))) := by
  unfold total
  rw [row_sum (fun y => sumN W (fun x => c x y)) hH hph]
  refine sumN_congr fun j _ => ?_
  rw [row_sum (fun x => c x (ph + 2 * j)) hW hph, row_sum (fun x => c x (nxt H (ph + 2 * j) 1)) hW hph, ← sumN_add]
  refine sumN_congr fun i _ => ?_
  unfold four
  omega
def pc (v : Nat) : Nat := bitN v 0 + bitN v 1 + bitN v 2 + bitN v 3
theorem pc_blk {c : Nat → Nat → Nat} {W H ox oy : Nat} (hc : ∀ x y, c x y < 2) : pc (blk c W H ox oy) = four c W H ox oy := by
  obtain ⟨b0, b1, b2, b3⟩ := bitN_blk (hc ox oy) (hc (nxt W ox 1) oy) (hc ox (nxt H oy 1)) (hc (nxt W ox 1) (nxt H oy 1))
  unfold pc blk four
  rw [b0, b1, b2, b3]
theorem cellN_lt {t : Nat → Nat} {W H ph : Nat} {c : Nat → Nat → Nat} (x y : Nat) : cellN t W H ph c x y < 2 := bitN_lt _ _
/-- WHAT IS KEPT IS KEPT: one step. -/
theorem keeps_step {t : Nat → Nat} {W H ph : Nat} {c : Nat → Nat → Nat} (hW : W % 2 = 0) (hH : H % 2 = 0) (hph : ph ≤ 1) (hc : ∀ x y, c x y < 2) (ht : ∀ b, b < 16 → t b < 16) (hk : ∀ b, b < 16 → pc (t b) = pc b) : total W H (cellN t W H ph c) = total W H c := by
  rw [total_blocks (ph := ph) _ hW hH hph, total_blocks (ph := ph) c hW hH hph]
  refine sumN_congr fun j hj => sumN_congr fun i hi => ?_
  have hx : ph + 2 * i < W := by omega
  have hy : ph + 2 * j < H := by omega
  have hb : blk c W H (ph + 2 * i) (ph + 2 * j) < 16 := by
    have h1 := hc (ph + 2 * i) (ph + 2 * j)
    have h2 := hc (nxt W (ph + 2 * i) 1) (ph + 2 * j)
    have h3 := hc (ph + 2 * i) (nxt H (ph + 2 * j) 1)
    have h4 := hc (nxt W (ph + 2 * i) 1) (nxt H (ph + 2 * j) 1)
    unfold blk; omega
  rw [← pc_blk (fun x y => cellN_lt x y), blk_cellN hW hH hph hx hy (by omega) (by omega) (ht _ hb), hk _ hb, pc_blk hc]
end Bl
end Go.Proofs.YtgagophijmiceaaDoor
