/- PLANES, plain: patterns as what lives in a plane or on rings; turned ones; what is cut out. -/
import Derived.Test.YtgagophijmiceaaDoorPnPl
namespace Go.Proofs.YtgagophijmiceaaDoor
set_option linter.unusedSimpArgs false
set_option linter.unusedVariables false
namespace Pn
open Bl

/-- A pattern at the corner of a plane. -/
def ext (W H : Nat) (c : Nat → Nat → Nat) (x y : Int) : Nat := if (0 ≤ x ∧ x < W) ∧ 0 ≤ y ∧ y < H then c x.toNat y.toNat else 0
/-- A pattern on rings, laid out in a plane again and again. -/
def per (W H : Nat) (c : Nat → Nat → Nat) (x y : Int) : Nat := c (x % W).toNat (y % H).toNat
theorem ext_at {W H x y : Nat} {c : Nat → Nat → Nat} (hx : x < W) (hy : y < H) : ext W H c x y = c x y := by
  unfold ext
  rw [if_pos ⟨⟨by omega, by omega⟩, by omega, by omega⟩, Int.toNat_natCast, Int.toNat_natCast]
theorem per_at {W H x y : Nat} {c : Nat → Nat → Nat} (hx : x < W) (hy : y < H) : per W H c x y = c x y := by
  unfold per
  rw [Int.emod_eq_of_lt (by omega) (by omega), Int.emod_eq_of_lt (by omega) (by omega), Int.toNat_natCast, Int.toNat_natCast]
/-- The nine cells about a place on rings, as the program reads them. -/
def nineT (W H : Nat) (c : Nat → Nat → Nat) (x y : Nat) : Nat :=
  c ((x + 0 + W - 1) % W) ((y + 0 + H - 1) % H) + c ((x + 1 + W - 1) % W) ((y + 0 + H - 1) % H) + c ((x + 2 + W - 1) % W) ((y + 0 + H - 1) % H) +
  (c ((x + 0 + W - 1) % W) ((y + 1 + H - 1) % H) + c ((x + 1 + W - 1) % W) ((y + 1 + H - 1) % H) + c ((x + 2 + W - 1) % W) ((y + 1 + H - 1) % H)) +
  (c ((x + 0 + W - 1) % W) ((y + 2 + H - 1) % H) + c ((x + 1 + W - 1) % W) ((y + 2 + H - 1) % H) + c ((x + 2 + W - 1) % W) ((y + 2 + H - 1) % H))
/-- A step on rings. -/
def tor (B S W H : Nat) (c : Nat → Nat → Nat) (x y : Nat) : Nat := bec B S (c x y) (nineT W H c x y - c x y)
theorem tor_lt (B S W H : Nat) (c : Nat → Nat → Nat) (x y : Nat) : tor B S W H c x y < 2 := bec_lt _ _ _ _
theorem ring_at {W x d : Nat} {e : Int} (hx : x < W) (he : (d : Int) - 1 = e) : (x + d + W - 1) % W = (((x : Int) + e) % W).toNat := by
  have h1 : ((x : Int) + e) % W = ((x + d + W - 1 : Nat) : Int) % W := by
    have : ((x + d + W - 1 : Nat) : Int) = (x : Int) + e + W := by omega
    rw [this, Int.add_emod_right]
  rw [h1, ← Int.natCast_emod, Int.toNat_natCast]
theorem nineT_per {W H x y : Nat} {c : Nat → Nat → Nat} (hx : x < W) (hy : y < H) : nineT W H c x y = nine (per W H c) x y := by
  have x0 := ring_at (d := 0) (e := -1) hx (by decide)
  have x1 := ring_at (d := 1) (e := 0) hx (by decide)
  have x2 := ring_at (d := 2) (e := 1) hx (by decide)
  have y0 := ring_at (d := 0) (e := -1) hy (by decide)
  have y1 := ring_at (d := 1) (e := 0) hy (by decide)
  have y2 := ring_at (d := 2) (e := 1) hy (by decide)
  unfold nineT nine per
  rw [x0, x1, x2, y0, y1, y2]
theorem tor_per {B S W H x y : Nat} {c : Nat → Nat → Nat} (hx : x < W) (hy : y < H) : tor B S W H c x y = nx B S (per W H c) x y := by
  unfold tor nx
  rw [nineT_per hx hy, per_at hx hy]

/-- A quarter, clockwise. -/
def quart (H : Nat) (c : Nat → Nat → Nat) (x y : Nat) : Nat := c y (H - 1 - x)
/-- Mirrored. -/
def mir (W : Nat) (c : Nat → Nat → Nat) (x y : Nat) : Nat := c (W - 1 - x) y
theorem quart_ext {W H : Nat} {c : Nat → Nat → Nat} : Tw 0 1 (-1) 0 0 (H - 1) (ext W H c) (ext H W (quart H c)) := by
  intro x y
  have e1 : (0 : Int) * x + 1 * y + 0 = y := by omega
  have e2 : (-1 : Int) * x + 0 * y + ((H : Int) - 1) = H - 1 - x := by omega
  rw [e1, e2]
  unfold ext quart
  by_cases h : (0 ≤ x ∧ x < H) ∧ 0 ≤ y ∧ y < W
  · rw [if_pos h, if_pos (by omega)]
    congr 1
    omega
  · rw [if_neg h, if_neg (by omega)]
theorem mir_ext {W H : Nat} {c : Nat → Nat → Nat} : Tw (-1) 0 0 1 (W - 1) 0 (ext W H c) (ext W H (mir W c)) := by
  intro x y
  have e1 : (-1 : Int) * x + 0 * y + ((W : Int) - 1) = W - 1 - x := by omega
  have e2 : (0 : Int) * x + 1 * y + 0 = y := by omega
  rw [e1, e2]
  unfold ext mir
  by_cases h : (0 ≤ x ∧ x < W) ∧ 0 ≤ y ∧ y < H
  · rw [if_pos h, if_pos (by omega)]
    congr 1
    omega
  · rw [if_neg h, if_neg (by omega)]
theorem ring_back {H : Nat} (hH : 0 < H) (x : Int) : (((H : Int) - 1 - x) % H).toNat = H - 1 - (x % H).toNat := by
  have h1 := Int.emod_nonneg x (show (H : Int) ≠ 0 by omega)
  have h2 := Int.emod_lt_of_pos x (show (0 : Int) < H by omega)
  have h3 : ((H : Int) - 1 - x) % H = (H : Int) - 1 - x % H := by
    have e : (H : Int) - 1 - x = ((H : Int) - 1 - x % H) + H * -(x / H) := by
      have := Int.emod_add_mul_ediv x H
      rw [Int.mul_neg]
      omega
    rw [e, Int.add_mul_emod_self_left, Int.emod_eq_of_lt (by omega) (by omega)]
  rw [h3]
  omega
theorem quart_per {W H : Nat} {c : Nat → Nat → Nat} (hH : 0 < H) : Tw 0 1 (-1) 0 0 (H - 1) (per W H c) (per H W (quart H c)) := by
  intro x y
  have e1 : (0 : Int) * x + 1 * y + 0 = y := by omega
  have e2 : (-1 : Int) * x + 0 * y + ((H : Int) - 1) = H - 1 - x := by omega
  rw [e1, e2]
  unfold per quart
  rw [ring_back hH]
theorem mir_per {W H : Nat} {c : Nat → Nat → Nat} (hW : 0 < W) : Tw (-1) 0 0 1 (W - 1) 0 (per W H c) (per W H (mir W c)) := by
  intro x y
  have e1 : (-1 : Int) * x + 0 * y + ((W : Int) - 1) = W - 1 - x := by omega
  have e2 : (0 : Int) * x + 1 * y + 0 = y := by omega
  rw [e1, e2]
  unfold per mir
  rw [ring_back hW]
theorem mat_quart : Mat 0 1 (-1) 0 := .inr ⟨rfl, rfl, .inl rfl, .inr rfl⟩
theorem mat_mir : Mat (-1) 0 0 1 := .inl ⟨rfl, rfl, .inr rfl, .inl rfl⟩
/-- A step of a turned one is the step, turned. -/
theorem tor_quart {B S W H x y : Nat} {c : Nat → Nat → Nat} (hx : x < H) (hy : y < W) : tor B S H W (quart H c) x y = quart H (tor B S W H c) x y := by
  rw [tor_per hx hy, (quart_per (by omega)).nx mat_quart]
  unfold quart
  rw [tor_per hy (show H - 1 - x < H by omega)]
  congr 1
  · omega
  · omega
theorem tor_mir {B S W H x y : Nat} {c : Nat → Nat → Nat} (hx : x < W) (hy : y < H) : tor B S W H (mir W c) x y = mir W (tor B S W H c) x y := by
  rw [tor_per hx hy, (mir_per (by omega)).nx mat_mir]
  unfold mir
  rw [tor_per (show W - 1 - x < W by omega) hy]
  congr 1
  · omega
  · omega
theorem tor_congr {B S W H x y : Nat} {c d : Nat → Nat → Nat} (h : ∀ x y, x < W → y < H → c x y = d x y) (hx : x < W) (hy : y < H) : tor B S W H c x y = tor B S W H d x y := by
  have hm : ∀ a b, c (a % W) (b % H) = d (a % W) (b % H) := fun a b => h _ _ (Nat.mod_lt _ (by omega)) (Nat.mod_lt _ (by omega))
  unfold tor nineT
  simp only [hm, h x y hx hy]

/-- Cells that are 0 about a pattern. -/
def pad (W H : Nat) (c : Nat → Nat → Nat) (x y : Nat) : Nat := if (1 ≤ x ∧ x ≤ W) ∧ 1 ≤ y ∧ y ≤ H then c (x - 1) (y - 1) else 0
/-- A grid shows what lives, and nothing lives beside it. -/
structure Lies (L : Int → Int → Nat) (W H : Nat) (c : Nat → Nat → Nat) (X Y : Int) : Prop where
  cell : ∀ x y, x < W → y < H → c x y = L (X + x) (Y + y)
  rest : ∀ x y, L x y ≠ 0 → (X ≤ x ∧ x < X + W) ∧ Y ≤ y ∧ y < Y + H
theorem lies_ext {W H : Nat} {c : Nat → Nat → Nat} : Lies (ext W H c) W H c 0 0 where
  cell := fun x y hx hy => by rw [Int.zero_add, Int.zero_add, ext_at hx hy]
  rest := fun x y h => by
    unfold ext at h
    by_cases hc : (0 ≤ x ∧ x < W) ∧ 0 ≤ y ∧ y < H
    · omega
    · rw [if_neg hc] at h; exact absurd rfl h
/-- Where the outermost living cells of a grid stand. -/
structure GBox (W H : Nat) (c : Nat → Nat → Nat) (l t r b : Nat) : Prop where
  lr : l ≤ r ∧ r < W
  tb : t ≤ b ∧ b < H
  inn : ∀ x y, x < W → y < H → c x y ≠ 0 → (l ≤ x ∧ x ≤ r) ∧ t ≤ y ∧ y ≤ b
  le : ∃ y, y < H ∧ c l y ≠ 0
  ri : ∃ y, y < H ∧ c r y ≠ 0
  to : ∃ x, x < W ∧ c x t ≠ 0
  bo : ∃ x, x < W ∧ c x b ≠ 0
theorem Lies.held {L : Int → Int → Nat} {W H : Nat} {c : Nat → Nat → Nat} {X Y : Int} (h : Lies L W H c X Y) {l t r b : Nat} (hb : GBox W H c l t r b) :
    Held L (r - l + 1) (b - t + 1) (fun x y => c (l + x) (t + y)) (X + l) (Y + t) := by
  have hlr := hb.lr
  have htb := hb.tb
  refine .inr ⟨by omega, by omega, ⟨fun x y hx => ?_, ?_, ?_, ?_, ?_⟩, fun x y hx hy => ?_⟩
  · have hr := h.rest x y hx
    obtain ⟨i, hi⟩ := Int.eq_ofNat_of_zero_le (show 0 ≤ x - X by omega)
    obtain ⟨j, hj⟩ := Int.eq_ofNat_of_zero_le (show 0 ≤ y - Y by omega)
    obtain rfl : x = X + i := by omega
    obtain rfl : y = Y + j := by omega
    have hiW : i < W := by omega
    have hjH : j < H := by omega
    rw [← h.cell i j hiW hjH] at hx
    have := hb.inn i j hiW hjH hx
    omega
  · obtain ⟨y, hy, hc⟩ := hb.le
    exact ⟨Y + y, by rw [← h.cell l y (by omega) hy]; exact hc⟩
  · obtain ⟨y, hy, hc⟩ := hb.ri
    refine ⟨Y + y, ?_⟩
    have : X + (l : Int) + ((r - l + 1 : Nat) : Int) - 1 = X + (r : Int) := by omega
    rw [this, ← h.cell r y (by omega) hy]; exact hc
  · obtain ⟨x, hx, hc⟩ := hb.to
    exact ⟨X + x, by rw [← h.cell x t hx (by omega)]; exact hc⟩
  · obtain ⟨x, hx, hc⟩ := hb.bo
    refine ⟨X + x, ?_⟩
    have : Y + (t : Int) + ((b - t + 1 : Nat) : Int) - 1 = Y + (b : Int) := by omega
    rw [this, ← h.cell x b hx (by omega)]; exact hc
  · show c (l + x) (t + y) = _
    rw [h.cell (l + x) (t + y) (by omega) (by omega)]
    congr 1
    · omega
    · omega
theorem Lies.dead {L : Int → Int → Nat} {W H : Nat} {c : Nat → Nat → Nat} {X Y : Int} (h : Lies L W H c X Y) (hz : ∀ x y, x < W → y < H → c x y = 0) : Dead L := fun x y => by
  rcases Nat.eq_zero_or_pos (L x y) with h0 | h0
  · exact h0
  · have hr := h.rest x y (by omega)
    obtain ⟨i, hi⟩ := Int.eq_ofNat_of_zero_le (show 0 ≤ x - X by omega)
    obtain ⟨j, hj⟩ := Int.eq_ofNat_of_zero_le (show 0 ≤ y - Y by omega)
    obtain rfl : x = X + i := by omega
    obtain rfl : y = Y + j := by omega
    rw [← h.cell i j (by omega) (by omega)]
    exact hz i j (by omega) (by omega)
theorem Held.lies {L : Int → Int → Nat} {W H : Nat} {c : Nat → Nat → Nat} {X Y : Int} (h : Held L W H c X Y) : Lies L W H c X Y := by
  rcases h with ⟨rfl, rfl, hd⟩ | ⟨h1, h2, h3, h4⟩
  · exact ⟨fun x y hx => absurd hx (by omega), fun x y hx => absurd (hd x y) hx⟩
  · exact ⟨h4, fun x y hx => by have := h3.inn x y hx; omega⟩
theorem Lies.zero {L : Int → Int → Nat} {W H : Nat} {c : Nat → Nat → Nat} {X Y : Int} (h : Lies L W H c X Y) {x y : Int} (ho : ¬ ((X ≤ x ∧ x < X + W) ∧ Y ≤ y ∧ y < Y + H)) : L x y = 0 := by
  rcases Nat.eq_zero_or_pos (L x y) with h0 | h0
  · exact h0
  · exact absurd (h.rest x y (by omega)) ho
theorem lies_pad {L : Int → Int → Nat} {W H : Nat} {c : Nat → Nat → Nat} {X Y : Int} (h : Lies L W H c X Y) : Lies L (W + 2) (H + 2) (pad W H c) (X - 1) (Y - 1) where
  cell := fun x y hx hy => by
    unfold pad
    by_cases hc : (1 ≤ x ∧ x ≤ W) ∧ 1 ≤ y ∧ y ≤ H
    · rw [if_pos hc, h.cell (x - 1) (y - 1) (by omega) (by omega)]
      congr 1
      · omega
      · omega
    · rw [if_neg hc, h.zero (by omega)]
  rest := fun x y hx => by have := h.rest x y hx; omega
/-- A step on rings about which enough is 0 is a step in the plane. -/
theorem ring_far {W x d : Nat} {e X : Int} {g : Int → Nat} (hx : x < W + 4) (hd : d ≤ 2) (he : (d : Int) - 1 = e) (hz : ∀ u, ¬ (X ≤ u ∧ u < X + W) → g u = 0) :
    g (X - 2 + (((x + d + (W + 4) - 1) % (W + 4) : Nat) : Int)) = g (X - 2 + x + e) := by
  by_cases h1 : x + d = 0
  · have : (x + d + (W + 4) - 1) % (W + 4) = W + 3 := by rw [h1]; rw [Nat.mod_eq_of_lt (by omega)]; omega
    rw [this, hz _ (by omega), hz _ (by omega)]
  · by_cases h2 : x + d = W + 5
    · have : (x + d + (W + 4) - 1) % (W + 4) = 0 := by
        rw [h2, show W + 5 + (W + 4) - 1 = (W + 4) * 2 by omega, Nat.mul_mod_right]
      rw [this, hz _ (by omega), hz _ (by omega)]
    · have : (x + d + (W + 4) - 1) % (W + 4) = x + d - 1 := by
        rw [show x + d + (W + 4) - 1 = (x + d - 1) + (W + 4) by omega, Nat.add_mod_right, Nat.mod_eq_of_lt (by omega)]
      rw [this]
      congr 1
      omega
theorem bec_zero {B S : Nat} (hB : B % 2 = 0) : bec B S 0 0 = 0 := by
  unfold bec bitN
  rw [if_neg (by decide), Nat.pow_zero, Nat.div_one, hB]
theorem nx_zero {B S : Nat} {L : Int → Int → Nat} {x y : Int} (hB : B % 2 = 0) (h : ∀ p q : Int, -1 ≤ p → p ≤ 1 → -1 ≤ q → q ≤ 1 → L (x + p) (y + q) = 0) : nx B S L x y = 0 := by
  have h0 := h 0 0 (by decide) (by decide) (by decide) (by decide)
  rw [Int.add_zero, Int.add_zero] at h0
  unfold nx nine
  simp only [h _ _ (show (-1 : Int) ≤ -1 by decide) (show (-1 : Int) ≤ 1 by decide) (show (-1 : Int) ≤ -1 by decide) (show (-1 : Int) ≤ 1 by decide),
    h _ _ (show (-1 : Int) ≤ 0 by decide) (show (0 : Int) ≤ 1 by decide) (show (-1 : Int) ≤ -1 by decide) (show (-1 : Int) ≤ 1 by decide),
    h _ _ (show (-1 : Int) ≤ 1 by decide) (show (1 : Int) ≤ 1 by decide) (show (-1 : Int) ≤ -1 by decide) (show (-1 : Int) ≤ 1 by decide),
    h _ _ (show (-1 : Int) ≤ -1 by decide) (show (-1 : Int) ≤ 1 by decide) (show (-1 : Int) ≤ 0 by decide) (show (0 : Int) ≤ 1 by decide),
    h _ _ (show (-1 : Int) ≤ 0 by decide) (show (0 : Int) ≤ 1 by decide) (show (-1 : Int) ≤ 0 by decide) (show (0 : Int) ≤ 1 by decide),
    h _ _ (show (-1 : Int) ≤ 1 by decide) (show (1 : Int) ≤ 1 by decide) (show (-1 : Int) ≤ 0 by decide) (show (0 : Int) ≤ 1 by decide),
    h _ _ (show (-1 : Int) ≤ -1 by decide) (show (-1 : Int) ≤ 1 by decide) (show (-1 : Int) ≤ 1 by decide) (show (1 : Int) ≤ 1 by decide),
    h _ _ (show (-1 : Int) ≤ 0 by decide) (show (0 : Int) ≤ 1 by decide) (show (-1 : Int) ≤ 1 by decide) (show (1 : Int) ≤ 1 by decide),
    h _ _ (show (-1 : Int) ≤ 1 by decide) (show (1 : Int) ≤ 1 by decide) (show (-1 : Int) ≤ 1 by decide) (show (1 : Int) ≤ 1 by decide), h0]
  exact bec_zero hB
theorem lies_rest {B S W H : Nat} {L : Int → Int → Nat} {c : Nat → Nat → Nat} {X Y : Int} (hB : B % 2 = 0) (h : Lies L W H c X Y) (x y : Int) (hx : nx B S L x y ≠ 0) : (X - 1 ≤ x ∧ x < X + W + 1) ∧ Y - 1 ≤ y ∧ y < Y + H + 1 := by
  by_cases ho : (X - 1 ≤ x ∧ x < X + W + 1) ∧ Y - 1 ≤ y ∧ y < Y + H + 1
  · exact ho
  · exact absurd (nx_zero hB fun p q h1 h2 h3 h4 => h.zero (by omega)) hx
/-- A step of the program: twice 0s about it, then a step on rings. -/
theorem lies_next {B S W H : Nat} {L : Int → Int → Nat} {c : Nat → Nat → Nat} {X Y : Int} (hB : B % 2 = 0) (h : Lies L W H c X Y) :
    Lies (nx B S L) (W + 4) (H + 4) (tor B S (W + 4) (H + 4) (pad (W + 2) (H + 2) (pad W H c))) (X - 2) (Y - 2) where
  cell := fun x y hx hy => by
    have hp := lies_pad (lies_pad h)
    obtain ⟨p, hpe⟩ : ∃ p, p = pad (W + 2) (H + 2) (pad W H c) := ⟨_, rfl⟩
    rw [← hpe] at hp ⊢
    have pt : ∀ (d d' : Nat) (e e' : Int), d ≤ 2 → d' ≤ 2 → (d : Int) - 1 = e → (d' : Int) - 1 = e' → p ((x + d + (W + 4) - 1) % (W + 4)) ((y + d' + (H + 4) - 1) % (H + 4)) = L (X - 2 + x + e) (Y - 2 + y + e') := fun d d' e e' hd hd' he he' => by
      have h1 := hp.cell ((x + d + (W + 4) - 1) % (W + 4)) ((y + d' + (H + 4) - 1) % (H + 4)) (Nat.mod_lt _ (by omega)) (Nat.mod_lt _ (by omega))
      rw [h1]
      have h2 := ring_far (g := fun u => L u (Y - 2 + (((y + d' + (H + 4) - 1) % (H + 4) : Nat) : Int))) (X := X) hx hd he (fun u hu => h.zero (by omega))
      have h3 := ring_far (g := fun v => L (X - 2 + x + e) v) (X := Y) hy hd' he' (fun u hu => h.zero (by omega))
      have e1 : X - 1 - 1 = X - 2 := by omega
      have e2 : Y - 1 - 1 = Y - 2 := by omega
      rw [e1, e2]
      exact h2.trans h3
    have pc : p x y = L (X - 2 + x) (Y - 2 + y) := by
      rw [hp.cell x y hx hy]
      congr 1
      · omega
      · omega
    unfold tor nx nineT nine
    rw [pc, pt 0 0 (-1) (-1) (by decide) (by decide) (by decide) (by decide), pt 1 0 0 (-1) (by decide) (by decide) (by decide) (by decide), pt 2 0 1 (-1) (by decide) (by decide) (by decide) (by decide),
      pt 0 1 (-1) 0 (by decide) (by decide) (by decide) (by decide), pt 1 1 0 0 (by decide) (by decide) (by decide) (by decide), pt 2 1 1 0 (by decide) (by decide) (by decide) (by decide),
      pt 0 2 (-1) 1 (by decide) (by decide) (by decide) (by decide), pt 1 2 0 1 (by decide) (by decide) (by decide) (by decide), pt 2 2 1 1 (by decide) (by decide) (by decide) (by decide)]
  rest := fun x y hx => by have := lies_rest hB h x y hx; omega
/-- A step of the document: one more cell on each side. -/
theorem lies_near {B S W H : Nat} {L : Int → Int → Nat} {c : Nat → Nat → Nat} {X Y : Int} (hB : B % 2 = 0) (h : Lies L W H c X Y) :
    Lies (nx B S L) (W + 2) (H + 2) (fun x y => nx B S L (X - 1 + x) (Y - 1 + y)) (X - 1) (Y - 1) where
  cell := fun x y hx hy => rfl
  rest := fun x y hx => by have := lies_rest hB h x y hx; omega
end Pn
end Go.Proofs.YtgagophijmiceaaDoor
