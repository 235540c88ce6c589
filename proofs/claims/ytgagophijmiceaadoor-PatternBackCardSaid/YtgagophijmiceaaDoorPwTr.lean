/- PATTERNS AS TEXTS, plain: what is left of a pattern is one; its turns and the first of them. -/
import Derived.Test.YtgagophijmiceaaDoorPwTn
import Derived.Test.YtgagophijmiceaaDoorPnH
namespace Go.Proofs.YtgagophijmiceaaDoor
set_option linter.unusedSimpArgs false
set_option linter.unusedVariables false
namespace Pw
open Bl Pn

theorem trimmed_le {W H W' H' X Y : Nat} {f f' : Nat → Nat → Nat} (h : Trimmed W H f W' H' f' X Y) : W' ≤ W ∧ H' ≤ H := by
  rcases h with ⟨h1, h2, _⟩ | ⟨r, b, hg, h1, h2, _⟩
  · omega
  · have := hg.lr
    have := hg.tb
    omega
/-- What is left of a pattern is one. -/
theorem trimmed_one {W H W1 H1 X1 Y1 W2 H2 X2 Y2 : Nat} {f f1 f2 : Nat → Nat → Nat} (h1 : Trimmed W H f W1 H1 f1 X1 Y1) (h2 : Trimmed W H f W2 H2 f2 X2 Y2) : W1 = W2 ∧ H1 = H2 ∧ X1 = X2 ∧ Y1 = Y2 ∧ ∀ x y, x < W1 → y < H1 → f1 x y = f2 x y := by
  rcases h1 with ⟨a1, a2, a3, a4, a5⟩ | ⟨r, b, hg, a1, a2, a3⟩
  · rcases h2 with ⟨b1, b2, b3, b4, b5⟩ | ⟨r, b, hg, b1, b2, b3⟩
    · exact ⟨by omega, by omega, by omega, by omega, fun x y hx _ => by omega⟩
    · obtain ⟨y, hy, hn⟩ := hg.le
      exact absurd (a5 X2 y (by have := hg.lr; omega) hy) hn
  · rcases h2 with ⟨b1, b2, b3, b4, b5⟩ | ⟨r2, c2, hk, b1, b2, b3⟩
    · obtain ⟨y, hy, hn⟩ := hg.le
      exact absurd (b5 X1 y (by have := hg.lr; omega) hy) hn
    · have key : ∀ {l t r b l' t' r' b' : Nat}, GBox W H f l t r b → GBox W H f l' t' r' b' → l ≤ l' ∧ t ≤ t' ∧ r' ≤ r ∧ b' ≤ b := fun {l t r b l' t' r' b'} g g' => by
        have e1 := g.lr
        have e2 := g.tb
        have e3 := g'.lr
        have e4 := g'.tb
        obtain ⟨y1, hy1, n1⟩ := g'.le
        obtain ⟨y2, hy2, n2⟩ := g'.ri
        obtain ⟨x1, hx1, n3⟩ := g'.to
        obtain ⟨x2, hx2, n4⟩ := g'.bo
        have i1 := g.inn l' y1 (by omega) hy1 n1
        have i2 := g.inn r' y2 (by omega) hy2 n2
        have i3 := g.inn x1 t' hx1 (by omega) n3
        have i4 := g.inn x2 b' hx2 (by omega) n4
        omega
      have k1 := key hg hk
      have k2 := key hk hg
      have eX : X1 = X2 := by omega
      have eY : Y1 = Y2 := by omega
      refine ⟨by omega, by omega, eX, eY, fun x y _ _ => ?_⟩
      rw [a3, b3, eX, eY]
theorem tF_congr {W H k : Nat} {f g : Nat → Nat → Nat} (h : ∀ x y, x < W → y < H → f x y = g x y) : flat (qW W H (k % 4)) (qH W H (k % 4)) (tF W H f k) = flat (qW W H (k % 4)) (qH W H (k % 4)) (tF W H g k) := by
  rw [rT_flat, rT_flat]
  refine flat_congr fun x y hx hy => ?_
  have := sA_lt hx hy
  unfold rT
  refine h _ _ ?_ this.2
  split <;> omega
theorem canK_congr {W H : Nat} {f g : Nat → Nat → Nat} (h : ∀ x y, x < W → y < H → f x y = g x y) : ∀ k, canK W H f k = canK W H g k
  | 0 => rfl
  | k + 1 => by
    unfold canK
    rw [canK_congr h k, tF_congr h, tF_congr (k := canK W H g k) h]
end Pw
end Go.Proofs.YtgagophijmiceaaDoor
