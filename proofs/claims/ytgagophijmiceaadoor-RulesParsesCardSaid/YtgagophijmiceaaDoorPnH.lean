/- PLANES, plain: the least rectangle about what lives, found cell by cell; rows that are laid end to end. -/
import Derived.Test.YtgagophijmiceaaDoorPnG
namespace Go.Proofs.YtgagophijmiceaaDoor
set_option linter.unusedSimpArgs false
set_option linter.unusedVariables false
namespace Pn
open Bl

/-- What the numbers say behind so many cells. -/
def BB (W H : Nat) (f : Nat → Nat → Nat) (k : Nat) (l t r b : Int) : Prop :=
  (l = W ∧ t = H ∧ r = -1 ∧ b = -1 ∧ ∀ j, j < k → f (j % W) (j / W) = 0) ∨
  (0 ≤ l ∧ l ≤ r ∧ r < W ∧ 0 ≤ t ∧ t ≤ b ∧ b < H ∧ (∀ j, j < k → f (j % W) (j / W) ≠ 0 → (l ≤ ((j % W : Nat) : Int) ∧ ((j % W : Nat) : Int) ≤ r) ∧ t ≤ ((j / W : Nat) : Int) ∧ ((j / W : Nat) : Int) ≤ b) ∧
    (∃ j, j < k ∧ f (j % W) (j / W) ≠ 0 ∧ ((j % W : Nat) : Int) = l) ∧ (∃ j, j < k ∧ f (j % W) (j / W) ≠ 0 ∧ ((j % W : Nat) : Int) = r) ∧
    (∃ j, j < k ∧ f (j % W) (j / W) ≠ 0 ∧ ((j / W : Nat) : Int) = t) ∧ (∃ j, j < k ∧ f (j % W) (j / W) ≠ 0 ∧ ((j / W : Nat) : Int) = b))
theorem BB.zero {W H : Nat} {f : Nat → Nat → Nat} : BB W H f 0 W H (-1) (-1) := .inl ⟨rfl, rfl, rfl, rfl, fun j hj => absurd hj (Nat.not_lt_zero _)⟩
theorem BB.dead {W H k : Nat} {f : Nat → Nat → Nat} {l t r b : Int} (h : BB W H f k l t r b) (hc : f (k % W) (k / W) = 0) : BB W H f (k + 1) l t r b := by
  have hx : ∀ {p : Nat → Prop}, (∃ j, j < k ∧ f (j % W) (j / W) ≠ 0 ∧ p j) → ∃ j, j < k + 1 ∧ f (j % W) (j / W) ≠ 0 ∧ p j := fun ⟨j, h1, h2⟩ => ⟨j, by omega, h2⟩
  rcases h with ⟨h1, h2, h3, h4, h5⟩ | ⟨h1, h2, h3, h4, h5, h6, h7, h8, h9, h10, h11⟩
  · refine .inl ⟨h1, h2, h3, h4, fun j hj => ?_⟩
    by_cases e : j = k
    · subst e; exact hc
    · exact h5 j (by omega)
  · refine .inr ⟨h1, h2, h3, h4, h5, h6, fun j hj hne => ?_, hx h8, hx h9, hx h10, hx h11⟩
    by_cases e : j = k
    · subst e; exact absurd hc hne
    · exact h7 j (by omega) hne
theorem BB.live {W H k : Nat} {f : Nat → Nat → Nat} {l t r b : Int} (h : BB W H f k l t r b) (hc : f (k % W) (k / W) ≠ 0) {x y : Nat} (hx : x = k % W) (hy : y = k / W) (hxW : x < W) (hyH : y < H) :
    BB W H f (k + 1) (min l x) (min t y) (max r x) (max b y) := by
  have ha : ∀ {p : Nat → Prop}, (∃ j, j < k ∧ f (j % W) (j / W) ≠ 0 ∧ p j) → ∃ j, j < k + 1 ∧ f (j % W) (j / W) ≠ 0 ∧ p j := fun ⟨j, h1, h2⟩ => ⟨j, by omega, h2⟩
  rcases h with ⟨h1, h2, h3, h4, h5⟩ | ⟨h1, h2, h3, h4, h5, h6, h7, h8, h9, h10, h11⟩
  · have e1 : min l (x : Int) = x := by omega
    have e2 : min t (y : Int) = y := by omega
    have e3 : max r (x : Int) = x := by omega
    have e4 : max b (y : Int) = y := by omega
    rw [e1, e2, e3, e4]
    refine .inr ⟨by omega, by omega, by omega, by omega, by omega, by omega, fun j hj hne => ?_, ⟨k, by omega, hc, by rw [hx]⟩, ⟨k, by omega, hc, by rw [hx]⟩, ⟨k, by omega, hc, by rw [hy]⟩, ⟨k, by omega, hc, by rw [hy]⟩⟩
    by_cases e : j = k
    · rw [e, ← hx, ← hy]; omega
    · exact absurd (h5 j (by omega)) hne
  · refine .inr ⟨by omega, by omega, by omega, by omega, by omega, by omega, fun j hj hne => ?_, ?_, ?_, ?_, ?_⟩
    · by_cases e : j = k
      · rw [e, ← hx, ← hy]; omega
      · have := h7 j (by omega) hne
        omega
    · rcases Int.le_total l x with h | h
      · rw [Int.min_eq_left h]; exact ha h8
      · rw [Int.min_eq_right h]; exact ⟨k, by omega, hc, by rw [hx]⟩
    · rcases Int.le_total r x with h | h
      · rw [Int.max_eq_right h]; exact ⟨k, by omega, hc, by rw [hx]⟩
      · rw [Int.max_eq_left h]; exact ha h9
    · rcases Int.le_total t y with h | h
      · rw [Int.min_eq_left h]; exact ha h10
      · rw [Int.min_eq_right h]; exact ⟨k, by omega, hc, by rw [hy]⟩
    · rcases Int.le_total b y with h | h
      · rw [Int.max_eq_right h]; exact ⟨k, by omega, hc, by rw [hy]⟩
      · rw [Int.max_eq_left h]; exact ha h11
theorem BB.sides {W H k : Nat} {f : Nat → Nat → Nat} {l t r b : Int} (h : BB W H f k l t r b) : (0 ≤ l ∧ l ≤ W) ∧ (0 ≤ t ∧ t ≤ H) ∧ (-1 ≤ r ∧ r < W ∨ r = -1) ∧ (-1 ≤ b ∧ b < H ∨ b = -1) := by
  rcases h with ⟨h1, h2, h3, h4, h5⟩ | ⟨h1, h2, h3, h4, h5, h6, _⟩
  · omega
  · omega
/-- What is left of a pattern. -/
def Trimmed (W H : Nat) (f : Nat → Nat → Nat) (W' H' : Nat) (f' : Nat → Nat → Nat) (X Y : Nat) : Prop :=
  (W' = 0 ∧ H' = 0 ∧ X = 0 ∧ Y = 0 ∧ ∀ x y, x < W → y < H → f x y = 0) ∨
  ∃ r b, GBox W H f X Y r b ∧ W' = r - X + 1 ∧ H' = b - Y + 1 ∧ f' = fun x y => f (X + x) (Y + y)
theorem BB.none {W H : Nat} {f : Nat → Nat → Nat} {l t r b : Int} (h : BB W H f (W * H) l t r b) (hr : r < 0) : ∀ x y, x < W → y < H → f x y = 0 := fun x y hx hy => by
  rcases h with ⟨_, _, _, _, h5⟩ | ⟨h1, h2, _⟩
  · have := h5 (y * W + x) (at_lt hx hy)
    rwa [at_mod hx, at_div hx] at this
  · omega
theorem BB.box {W H : Nat} {f : Nat → Nat → Nat} {l t r b : Int} (h : BB W H f (W * H) l t r b) (hr : ¬ r < 0) : ∃ l' t' r' b' : Nat, l = l' ∧ t = t' ∧ r = r' ∧ b = b' ∧ GBox W H f l' t' r' b' := by
  rcases h with ⟨_, _, h3, _⟩ | ⟨h1, h2, h3, h4, h5, h6, h7, ⟨j1, a1, a2, a3⟩, ⟨j2, b1, b2, b3⟩, ⟨j3, c1, c2, c3⟩, ⟨j4, d1, d2, d3⟩⟩
  · omega
  · obtain ⟨l', rfl⟩ := Int.eq_ofNat_of_zero_le h1
    obtain ⟨t', rfl⟩ := Int.eq_ofNat_of_zero_le h4
    obtain ⟨r', rfl⟩ := Int.eq_ofNat_of_zero_le (show 0 ≤ r by omega)
    obtain ⟨b', rfl⟩ := Int.eq_ofNat_of_zero_le (show 0 ≤ b by omega)
    have hW : 0 < W := by omega
    have hm : ∀ j, j < W * H → j % W < W ∧ j / W < H := fun j hj => ⟨Nat.mod_lt _ hW, Nat.div_lt_of_lt_mul hj⟩
    refine ⟨l', t', r', b', rfl, rfl, rfl, rfl, ⟨by omega, by omega⟩, ⟨by omega, by omega⟩, fun x y hx hy hne => ?_, ⟨j1 / W, (hm j1 a1).2, ?_⟩, ⟨j2 / W, (hm j2 b1).2, ?_⟩, ⟨j3 % W, (hm j3 c1).1, ?_⟩, ⟨j4 % W, (hm j4 d1).1, ?_⟩⟩
    · have := h7 (y * W + x) (at_lt hx hy) (by rw [at_mod hx, at_div hx]; exact hne)
      rw [at_mod hx, at_div hx] at this
      omega
    · have e : l' = j1 % W := by omega
      rw [e]; exact a2
    · have e : r' = j2 % W := by omega
      rw [e]; exact b2
    · have e : t' = j3 / W := by omega
      rw [e]; exact c2
    · have e : b' = j4 / W := by omega
      rw [e]; exact d2
/-- One row more. -/
theorem flat_row {w k : Nat} {g : Nat → Nat → Nat} : flat w (k + 1) g = flat w k g ++ (List.range w).map fun x => ((g x k : Nat) : Int) := by
  unfold flat
  rw [Nat.mul_succ, List.range_add, List.map_append, List.map_map]
  congr 1
  refine List.map_congr_left fun x hx => ?_
  have hxw := List.mem_range.1 hx
  show ((g ((w * k + x) % w) ((w * k + x) / w) : Nat) : Int) = _
  rw [Nat.mul_comm, at_mod hxw, at_div hxw]
theorem flat_none {w : Nat} {g : Nat → Nat → Nat} : flat w 0 g = [] := by simp [flat]
end Pn
end Go.Proofs.YtgagophijmiceaaDoor
