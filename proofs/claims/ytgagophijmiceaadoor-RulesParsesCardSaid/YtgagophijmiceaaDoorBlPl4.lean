/- PLAIN: n steps of blocks: what is undone, kept, turned. -/
import Derived.Test.YtgagophijmiceaaDoorBlPl3
namespace Go.Proofs.YtgagophijmiceaaDoor
set_option linter.unusedSimpArgs false
set_option linter.unusedVariables false
namespace Bl
/-- n steps from a phase on. -/
def run (t : Nat → Nat) (W H ph : Nat) (c : Nat → Nat → Nat) : Nat → Nat → Nat → Nat
  | 0 => c
  | n + 1 => cellN t W H ((ph + n) % 2) (run t W H ph c n)
theorem run_lt {t : Nat → Nat} {W H ph : Nat} {c : Nat → Nat → Nat} (hc : ∀ x y, c x y < 2) : ∀ n x y, run t W H ph c n x y < 2
  | 0, x, y => hc x y
  | n + 1, x, y => cellN_lt x y
theorem blk_congr {W H ox oy : Nat} {c c' : Nat → Nat → Nat} (h : ∀ x y, x < W → y < H → c x y = c' x y) (hx : ox < W) (hy : oy < H) : blk c W H ox oy = blk c' W H ox oy := by
  have h1 : nxt W ox 1 < W := by unfold nxt; split <;> omega
  have h2 : nxt H oy 1 < H := by unfold nxt; split <;> omega
  unfold blk
  rw [h _ _ hx hy, h _ _ h1 hy, h _ _ hx h2, h _ _ h1 h2]
theorem cellN_congr {t : Nat → Nat} {W H ph : Nat} {c c' : Nat → Nat → Nat} (hW : W % 2 = 0) (hH : H % 2 = 0) (hph : ph ≤ 1) (h : ∀ x y, x < W → y < H → c x y = c' x y) {x y : Nat} (hx : x < W) (hy : y < H) : cellN t W H ph c x y = cellN t W H ph c' x y := by
  unfold cellN
  rw [blk_congr h (nxt_ogn hW hx hph).2.1 (nxt_ogn hH hy hph).2.1]
theorem run_back {t u : Nat → Nat} {W H ph n : Nat} {c : Nat → Nat → Nat} (hW : W % 2 = 0) (hH : H % 2 = 0) (hc : ∀ x y, c x y < 2) (ht : ∀ b, b < 16 → t b < 16) (hu : ∀ b, b < 16 → u (t b) = b) :
    ∀ j, j ≤ n → ∀ x y, x < W → y < H → run u W H ((ph + n + 1) % 2) (run t W H ph c n) j x y = run t W H ph c (n - j) x y
  | 0, _, x, y, _, _ => rfl
  | j + 1, hj, x, y, hx, hy => by
    show cellN u W H (((ph + n + 1) % 2 + j) % 2) (run u W H ((ph + n + 1) % 2) (run t W H ph c n) j) x y = _
    have hp : ((ph + n + 1) % 2 + j) % 2 ≤ 1 := by omega
    rw [cellN_congr hW hH hp (fun x y hx hy => run_back hW hH hc ht hu j (by omega) x y hx hy) hx hy]
    obtain ⟨m, hm⟩ : ∃ m, n - j = m + 1 := ⟨n - j - 1, by omega⟩
    rw [hm, show n - (j + 1) = m from by omega]
    show cellN u W H _ (cellN t W H ((ph + m) % 2) (run t W H ph c m)) x y = _
    rw [show ((ph + n + 1) % 2 + j) % 2 = (ph + m) % 2 from by omega]
    exact back_step hW hH (by omega) hx hy (run_lt hc m) ht hu
theorem run_undone {t u : Nat → Nat} {W H ph n : Nat} {c : Nat → Nat → Nat} (hW : W % 2 = 0) (hH : H % 2 = 0) (hc : ∀ x y, c x y < 2) (ht : ∀ b, b < 16 → t b < 16) (hu : ∀ b, b < 16 → u (t b) = b) {x y : Nat} (hx : x < W) (hy : y < H) :
    run u W H ((ph + n + 1) % 2) (run t W H ph c n) n x y = c x y := by
  rw [run_back hW hH hc ht hu n (Nat.le_refl _) x y hx hy, Nat.sub_self]; rfl
theorem run_keeps {t : Nat → Nat} {W H ph : Nat} {c : Nat → Nat → Nat} (hW : W % 2 = 0) (hH : H % 2 = 0) (hc : ∀ x y, c x y < 2) (ht : ∀ b, b < 16 → t b < 16) (hk : ∀ b, b < 16 → pc (t b) = pc b) : ∀ n, total W H (run t W H ph c n) = total W H c
  | 0 => rfl
  | n + 1 => by
    show total W H (cellN t W H ((ph + n) % 2) (run t W H ph c n)) = _
    rw [keeps_step hW hH (by omega) (run_lt hc n) ht hk, run_keeps hW hH hc ht hk n]
theorem run_turn {t : Nat → Nat} {W H ph : Nat} {c : Nat → Nat → Nat} (hW : W % 2 = 0) (hH : H % 2 = 0) (hc : ∀ x y, c x y < 2) (ht : ∀ b, b < 16 → t (trn b) = trn (t b)) : ∀ n x y, x < H → y < W → run t H W ph (turnC H c) n x y = turnC H (run t W H ph c n) x y
  | 0, x, y, _, _ => rfl
  | n + 1, x, y, hx, hy => by
    show cellN t H W ((ph + n) % 2) (run t H W ph (turnC H c) n) x y = turnC H (cellN t W H ((ph + n) % 2) (run t W H ph c n)) x y
    rw [cellN_congr hH hW (by omega) (fun x y hx hy => run_turn hW hH hc ht n x y hx hy) hx hy]
    exact turn_step hW hH (by omega) hx hy (run_lt hc n) ht
end Bl
end Go.Proofs.YtgagophijmiceaaDoor
