/- PLAIN: what a table does not mind, a step does not mind: turned a quarter. -/
import Derived.Test.YtgagophijmiceaaDoorBlPl2
namespace Go.Proofs.YtgagophijmiceaaDoor
set_option linter.unusedSimpArgs false
set_option linter.unusedVariables false
namespace Bl
/-- A block, a quarter clockwise. -/
def trn (b : Nat) : Nat := bitN b 2 + 2 * bitN b 0 + 4 * bitN b 3 + 8 * bitN b 1
/-- A pattern of H rows, a quarter clockwise. -/
def turnC (H : Nat) (c : Nat → Nat → Nat) (x y : Nat) : Nat := c y (H - 1 - x)
theorem trn_lt (b : Nat) : trn b < 16 := by
  have h0 := bitN_lt b 0
  have h1 := bitN_lt b 1
  have h2 := bitN_lt b 2
  have h3 := bitN_lt b 3
  unfold trn; omega
theorem trn_bits (v : Nat) : bitN (trn v) 0 = bitN v 2 ∧ bitN (trn v) 1 = bitN v 0 ∧ bitN (trn v) 2 = bitN v 3 ∧ bitN (trn v) 3 = bitN v 1 :=
  bitN_blk (bitN_lt v 2) (bitN_lt v 0) (bitN_lt v 3) (bitN_lt v 1)
theorem turn_ogn {H ph x : Nat} (hH : H % 2 = 0) (hph : ph ≤ 1) (hx : x < H) : ogn H ph (H - 1 - x) = H - 1 - nxt H (ogn H ph x) 1 ∧ dxy ph (H - 1 - x) = 1 - dxy ph x ∧ nxt H (H - 1 - nxt H (ogn H ph x) 1) 1 = H - 1 - ogn H ph x := by
  unfold ogn nxt dxy
  refine ⟨?_, ?_, ?_⟩
  · repeat' split
    all_goals omega
  · omega
  · repeat' split
    all_goals omega
theorem turn_blk {W H ph x y : Nat} {c : Nat → Nat → Nat} (hH : H % 2 = 0) (hph : ph ≤ 1) (hx : x < H) (hc : ∀ x y, c x y < 2) :
    blk (turnC H c) H W (ogn H ph x) (ogn W ph y) = trn (blk c W H (ogn W ph y) (ogn H ph (H - 1 - x))) := by
  obtain ⟨h1, _, h3⟩ := turn_ogn hH hph hx
  rw [h1]
  obtain ⟨b0, b1, b2, b3⟩ := bitN_blk (hc (ogn W ph y) (H - 1 - nxt H (ogn H ph x) 1)) (hc (nxt W (ogn W ph y) 1) (H - 1 - nxt H (ogn H ph x) 1)) (hc (ogn W ph y) (nxt H (H - 1 - nxt H (ogn H ph x) 1) 1)) (hc (nxt W (ogn W ph y) 1) (nxt H (H - 1 - nxt H (ogn H ph x) 1) 1))
  rw [h3] at b0 b1 b2 b3
  unfold trn blk turnC
  rw [h3, b0, b1, b2, b3]
/-- WHAT DOES NOT MIND BEING TURNED DOES NOT: one step. -/
theorem turn_step {t : Nat → Nat} {W H ph x y : Nat} {c : Nat → Nat → Nat} (hW : W % 2 = 0) (hH : H % 2 = 0) (hph : ph ≤ 1) (hx : x < H) (hy : y < W) (hc : ∀ x y, c x y < 2) (ht : ∀ b, b < 16 → t (trn b) = trn (t b)) :
    cellN t H W ph (turnC H c) x y = turnC H (cellN t W H ph c) x y := by
  obtain ⟨_, h2, _⟩ := turn_ogn hH hph hx
  show bitN (t (blk (turnC H c) H W (ogn H ph x) (ogn W ph y))) (dxy ph y * 2 + dxy ph x) = bitN (t (blk c W H (ogn W ph y) (ogn H ph (H - 1 - x)))) (dxy ph (H - 1 - x) * 2 + dxy ph y)
  rw [turn_blk hH hph hx hc, h2]
  have hb : blk c W H (ogn W ph y) (ogn H ph (H - 1 - x)) < 16 := by
    have h1 := hc (ogn W ph y) (ogn H ph (H - 1 - x))
    have h2 := hc (nxt W (ogn W ph y) 1) (ogn H ph (H - 1 - x))
    have h3 := hc (ogn W ph y) (nxt H (ogn H ph (H - 1 - x)) 1)
    have h4 := hc (nxt W (ogn W ph y) 1) (nxt H (ogn H ph (H - 1 - x)) 1)
    unfold blk; omega
  rw [ht _ hb]
  generalize t (blk c W H (ogn W ph y) (ogn H ph (H - 1 - x))) = v
  obtain ⟨k0, k1, k2, k3⟩ := trn_bits v
  have e1 : dxy ph x ≤ 1 := by unfold dxy; omega
  have e2 : dxy ph y ≤ 1 := by unfold dxy; omega
  generalize dxy ph x = dx at *
  generalize dxy ph y = dy at *
  have hx2 : dx = 0 ∨ dx = 1 := by omega
  have hy2 : dy = 0 ∨ dy = 1 := by omega
  rcases hx2 with rfl | rfl <;> rcases hy2 with rfl | rfl
  · exact k0
  · exact k2
  · exact k1
  · exact k3
end Bl
end Go.Proofs.YtgagophijmiceaaDoor
