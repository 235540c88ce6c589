/- PATTERNS AS TEXTS, plain: a turned pattern turned again; what is left of a turned pattern; the first of its turns. -/
import Derived.Test.YtgagophijmiceaaDoorPwTr
namespace Go.Proofs.YtgagophijmiceaaDoor
set_option linter.unusedSimpArgs false
set_option linter.unusedVariables false
namespace Pw
open Bl Pn

/-- Turned, and turned again. -/
def mulT (k j : Nat) : Nat := (if (4 ≤ k) = (4 ≤ j) then 0 else 4) + (j % 4 + (if 4 ≤ j then 4 - k % 4 else k % 4)) % 4
theorem f_two (f : Nat → Nat → Nat) {a b c d : Nat} (h1 : a = c) (h2 : b = d) : f a b = f c d := by rw [h1, h2]
theorem eight {k : Nat} (h : k < 8) : k = 0 ∨ k = 1 ∨ k = 2 ∨ k = 3 ∨ k = 4 ∨ k = 5 ∨ k = 6 ∨ k = 7 := by omega
theorem mulT_lt (k j : Nat) : mulT k j < 8 := by
  unfold mulT
  split <;> omega
theorem turn_size {W H k j : Nat} (hk : k < 8) (hj : j < 8) : qW (qW W H (k % 4)) (qH W H (k % 4)) (j % 4) = qW W H (mulT k j % 4) ∧ qH (qW W H (k % 4)) (qH W H (k % 4)) (j % 4) = qH W H (mulT k j % 4) := by
  rcases eight hk with rfl | rfl | rfl | rfl | rfl | rfl | rfl | rfl <;> rcases eight hj with rfl | rfl | rfl | rfl | rfl | rfl | rfl | rfl <;> exact ⟨rfl, rfl⟩
theorem turn_turn {W H k j x y : Nat} {f : Nat → Nat → Nat} (hk : k < 8) (hj : j < 8) (hx : x < qW (qW W H (k % 4)) (qH W H (k % 4)) (j % 4)) (hy : y < qH (qW W H (k % 4)) (qH W H (k % 4)) (j % 4)) :
    rT (qW W H (k % 4)) (qH W H (k % 4)) (rT W H f k) j x y = rT W H f (mulT k j) x y := by
  rcases eight hk with rfl | rfl | rfl | rfl | rfl | rfl | rfl | rfl <;> rcases eight hj with rfl | rfl | rfl | rfl | rfl | rfl | rfl | rfl <;>
    simp [qW, qH] at hx hy <;> simp [rT, sA, sB, qW, qH, mulT] <;> first | done | exact f_two f (by omega) (by omega)
theorem turn_flat {W H k j : Nat} {f : Nat → Nat → Nat} (hk : k < 8) (hj : j < 8) :
    flat (qW (qW W H (k % 4)) (qH W H (k % 4)) (j % 4)) (qH (qW W H (k % 4)) (qH W H (k % 4)) (j % 4)) (tF (qW W H (k % 4)) (qH W H (k % 4)) (tF W H f k) j) = flat (qW W H (mulT k j % 4)) (qH W H (mulT k j % 4)) (tF W H f (mulT k j)) := by
  rw [tF_congr (fun x y hx hy => rT_same hx hy), rT_flat, rT_flat, ← (turn_size hk hj).1, ← (turn_size hk hj).2]
  exact flat_congr fun x y hx hy => turn_turn hk hj hx hy
/-- What is left of a pattern, cell by cell. -/
def TrimS (W H : Nat) (f : Nat → Nat → Nat) (W' H' : Nat) (g : Nat → Nat → Nat) : Prop := ∃ X Y f', Trimmed W H f W' H' f' X Y ∧ ∀ x y, x < W' → y < H' → f' x y = g x y
theorem TrimS.quart {W H W' H' : Nat} {f g : Nat → Nat → Nat} (h : TrimS W H f W' H' g) : TrimS H W (quart H f) H' W' (quart H' g) := by
  obtain ⟨X, Y, f', h, he⟩ := h
  rcases h with ⟨h1, h2, h3, h4, h5⟩ | ⟨r, b, hg, h1, h2, h3⟩
  · refine ⟨0, 0, f', .inl ⟨h2, h1, rfl, rfl, fun x y hx hy => ?_⟩, fun x y hx hy => by omega⟩
    exact h5 y (H - 1 - x) hy (by omega)
  · have e1 := hg.lr
    have e2 := hg.tb
    refine ⟨H - 1 - b, X, _, .inr ⟨H - 1 - Y, r, ?_, by omega, by omega, rfl⟩, fun x y hx hy => ?_⟩
    · obtain ⟨y1, hy1, n1⟩ := hg.le
      obtain ⟨y2, hy2, n2⟩ := hg.ri
      obtain ⟨x1, hx1, n3⟩ := hg.to
      obtain ⟨x2, hx2, n4⟩ := hg.bo
      refine ⟨by omega, by omega, fun x y hx hy hne => ?_, ⟨x2, hx2, ?_⟩, ⟨x1, hx1, ?_⟩, ⟨H - 1 - y1, by omega, ?_⟩, ⟨H - 1 - y2, by omega, ?_⟩⟩
      · have := hg.inn y (H - 1 - x) hy (by omega) hne
        omega
      · unfold Pn.quart
        rw [show H - 1 - (H - 1 - b) = b by omega]
        exact n4
      · unfold Pn.quart
        rw [show H - 1 - (H - 1 - Y) = Y by omega]
        exact n3
      · unfold Pn.quart
        rw [show H - 1 - (H - 1 - y1) = y1 by omega]
        exact n1
      · unfold Pn.quart
        rw [show H - 1 - (H - 1 - y2) = y2 by omega]
        exact n2
    · unfold Pn.quart
      rw [← he y (H' - 1 - x) hy (by omega), h3]
      exact f_two f rfl (by omega)
theorem TrimS.mir {W H W' H' : Nat} {f g : Nat → Nat → Nat} (h : TrimS W H f W' H' g) : TrimS W H (mir W f) W' H' (mir W' g) := by
  obtain ⟨X, Y, f', h, he⟩ := h
  rcases h with ⟨h1, h2, h3, h4, h5⟩ | ⟨r, b, hg, h1, h2, h3⟩
  · refine ⟨0, 0, f', .inl ⟨h1, h2, rfl, rfl, fun x y hx hy => ?_⟩, fun x y hx hy => by omega⟩
    exact h5 (W - 1 - x) y (by omega) hy
  · have e1 := hg.lr
    have e2 := hg.tb
    refine ⟨W - 1 - r, Y, _, .inr ⟨W - 1 - X, b, ?_, by omega, by omega, rfl⟩, fun x y hx hy => ?_⟩
    · obtain ⟨y1, hy1, n1⟩ := hg.le
      obtain ⟨y2, hy2, n2⟩ := hg.ri
      obtain ⟨x1, hx1, n3⟩ := hg.to
      obtain ⟨x2, hx2, n4⟩ := hg.bo
      refine ⟨by omega, by omega, fun x y hx hy hne => ?_, ⟨y2, hy2, ?_⟩, ⟨y1, hy1, ?_⟩, ⟨W - 1 - x1, by omega, ?_⟩, ⟨W - 1 - x2, by omega, ?_⟩⟩
      · have := hg.inn (W - 1 - x) y (by omega) hy hne
        omega
      · unfold Pn.mir
        rw [show W - 1 - (W - 1 - r) = r by omega]
        exact n2
      · unfold Pn.mir
        rw [show W - 1 - (W - 1 - X) = X by omega]
        exact n1
      · unfold Pn.mir
        rw [show W - 1 - (W - 1 - x1) = x1 by omega]
        exact n3
      · unfold Pn.mir
        rw [show W - 1 - (W - 1 - x2) = x2 by omega]
        exact n4
    · unfold Pn.mir
      rw [← he (W' - 1 - x) y (by omega) hy, h3]
      exact f_two f (by omega) rfl
theorem TrimS.quarts {W H W' H' : Nat} {f g : Nat → Nat → Nat} (h : TrimS W H f W' H' g) : ∀ k, TrimS (qW W H k) (qH W H k) (qF W H f k) (qW W' H' k) (qH W' H' k) (qF W' H' g k)
  | 0 => h
  | k + 1 => by
    rw [(q_next W H k).1, (q_next W H k).2, (q_next W' H' k).1, (q_next W' H' k).2]
    exact (TrimS.quarts h k).quart
theorem TrimS.turn {W H W' H' : Nat} {f g : Nat → Nat → Nat} (h : TrimS W H f W' H' g) (k : Nat) : TrimS (qW W H (k % 4)) (qH W H (k % 4)) (tF W H f k) (qW W' H' (k % 4)) (qH W' H' (k % 4)) (tF W' H' g k) := by
  unfold tF
  by_cases h4 : 4 ≤ k
  · rw [if_pos h4, if_pos h4]
    exact h.mir.quarts _
  · rw [if_neg h4, if_neg h4]
    exact h.quarts _
theorem bb_some (W H : Nat) (f : Nat → Nat → Nat) : ∀ k, k ≤ W * H → ∃ l t r b : Int, BB W H f k l t r b
  | 0, _ => ⟨_, _, _, _, BB.zero⟩
  | k + 1, h => by
    obtain ⟨l, t, r, b, hb⟩ := bb_some W H f k (by omega)
    by_cases h0 : f (k % W) (k / W) = 0
    · exact ⟨_, _, _, _, hb.dead h0⟩
    · obtain ⟨h1, h2, _⟩ := at_of (show k < W * H by omega)
      exact ⟨_, _, _, _, hb.live h0 rfl rfl h1 h2⟩
/-- Of each pattern something is left, or nothing lives. -/
theorem trimmed_some (W H : Nat) (f : Nat → Nat → Nat) : ∃ W' H' X Y : Nat, ∃ f', Trimmed W H f W' H' f' X Y := by
  obtain ⟨l, t, r, b, hb⟩ := bb_some W H f _ (Nat.le_refl _)
  by_cases hr : r < 0
  · exact ⟨0, 0, 0, 0, f, .inl ⟨rfl, rfl, rfl, rfl, hb.none hr⟩⟩
  · obtain ⟨l', t', r', b', _, _, _, _, hg⟩ := hb.box hr
    exact ⟨_, _, _, _, _, .inr ⟨r', b', hg, rfl, rfl, rfl⟩⟩
/-! The order of patterns is one. -/
theorem lessL_refl : ∀ l, lessL l l = 0
  | [] => rfl
  | a :: l => by
    unfold lessL
    rw [if_neg (by omega), if_neg (by omega), lessL_refl l]
theorem lessL_same : ∀ l m, ¬ lessL l m < 0 → ¬ lessL m l < 0 → l = m
  | [], [], _, _ => rfl
  | [], _ :: _, h, _ => absurd (show (-1 : Int) < 0 by decide) h
  | _ :: _, [], _, h => absurd (show (-1 : Int) < 0 by decide) h
  | a :: l, b :: m, h, h2 => by
    unfold lessL at h h2
    by_cases e : a < b
    · rw [if_pos e] at h
      exact absurd (by decide) h
    · by_cases e2 : b < a
      · rw [if_pos e2] at h2
        exact absurd (by decide) h2
      · rw [if_neg e, if_neg e2] at h
        rw [if_neg e2, if_neg e] at h2
        rw [lessL_same l m h h2, show a = b by omega]
theorem lessL_trans : ∀ l m n, lessL l m < 0 → lessL m n < 0 → lessL l n < 0
  | [], [], _, h, _ => absurd h (by decide)
  | _ :: _, [], _, h, _ => absurd h (show ¬ (1 : Int) < 0 by decide)
  | _, _ :: _, [], _, h => absurd h (show ¬ (1 : Int) < 0 by decide)
  | [], _ :: _, _ :: _, _, _ => show (-1 : Int) < 0 by decide
  | a :: l, b :: m, c :: n, h, h2 => by
    unfold lessL at h h2 ⊢
    by_cases e : a < b
    · by_cases e2 : b < c
      · rw [if_pos (by omega)]; decide
      · by_cases e3 : c < b
        · rw [if_neg e2, if_pos e3] at h2
          exact absurd h2 (by decide)
        · rw [if_pos (by omega)]; decide
    · by_cases e2 : b < a
      · rw [if_neg e, if_pos e2] at h
        exact absurd h (by decide)
      · rw [if_neg e, if_neg e2] at h
        by_cases e3 : b < c
        · rw [if_pos (by omega)]; decide
        · by_cases e4 : c < b
          · rw [if_neg e3, if_pos e4] at h2
            exact absurd h2 (by decide)
          · rw [if_neg e3, if_neg e4] at h2
            rw [if_neg (by omega), if_neg (by omega)]
            exact lessL_trans l m n h h2
theorem ordP_cases {W H : Nat} {z : List Int} {W' H' : Nat} {z' : List Int} : ordP W H z W' H' z' < 0 ↔ H < H' ∨ (H = H' ∧ (W < W' ∨ (W = W' ∧ lessL z z' < 0))) := by
  unfold ordP
  by_cases h1 : H < H'
  · rw [if_pos h1]; exact ⟨fun _ => .inl h1, fun _ => by decide⟩
  · rw [if_neg h1]
    by_cases h2 : H' < H
    · rw [if_pos h2]; exact ⟨fun h => absurd h (by decide), fun h => by omega⟩
    · rw [if_neg h2]
      by_cases h3 : W < W'
      · rw [if_pos h3]; exact ⟨fun _ => .inr ⟨by omega, .inl h3⟩, fun _ => by decide⟩
      · rw [if_neg h3]
        by_cases h4 : W' < W
        · rw [if_pos h4]; exact ⟨fun h => absurd h (by decide), fun h => by omega⟩
        · rw [if_neg h4]
          exact ⟨fun h => .inr ⟨by omega, .inr ⟨by omega, h⟩⟩, fun h => by
            rcases h with h | ⟨_, h | ⟨_, h⟩⟩
            · exact absurd h h1
            · exact absurd h h3
            · exact h⟩
theorem ordP_refl {W H : Nat} {z : List Int} : ¬ ordP W H z W H z < 0 := by
  rw [ordP_cases, lessL_refl]
  omega
theorem ordP_same {W H : Nat} {z : List Int} {W' H' : Nat} {z' : List Int} (h : ¬ ordP W H z W' H' z' < 0) (h2 : ¬ ordP W' H' z' W H z < 0) : W = W' ∧ H = H' ∧ z = z' := by
  rw [ordP_cases] at h h2
  have e1 : H = H' := by omega
  have e2 : W = W' := by omega
  exact ⟨e2, e1, lessL_same z z' (fun k => h (.inr ⟨e1, .inr ⟨e2, k⟩⟩)) (fun k => h2 (.inr ⟨e1.symm, .inr ⟨e2.symm, k⟩⟩))⟩
theorem ordP_trans {W H : Nat} {z : List Int} {W' H' : Nat} {z' : List Int} {W2 H2 : Nat} {z2 : List Int} (h : ordP W H z W' H' z' < 0) (h2 : ordP W' H' z' W2 H2 z2 < 0) : ordP W H z W2 H2 z2 < 0 := by
  rw [ordP_cases] at h h2 ⊢
  rcases h with h | ⟨e1, h | ⟨e2, h⟩⟩
  · rcases h2 with k | ⟨e3, _⟩ <;> exact .inl (by omega)
  · rcases h2 with k | ⟨e3, k | ⟨e4, _⟩⟩
    · exact .inl (by omega)
    · exact .inr ⟨by omega, .inl (by omega)⟩
    · exact .inr ⟨by omega, .inl (by omega)⟩
  · rcases h2 with k | ⟨e3, k | ⟨e4, k⟩⟩
    · exact .inl (by omega)
    · exact .inr ⟨by omega, .inl (by omega)⟩
    · exact .inr ⟨by omega, .inr ⟨by omega, lessL_trans _ _ _ h k⟩⟩
/-- One turn is ahead of another one. -/
def ltT (W H : Nat) (f : Nat → Nat → Nat) (i j : Nat) : Prop := ordP (qW W H (i % 4)) (qH W H (i % 4)) (flat (qW W H (i % 4)) (qH W H (i % 4)) (tF W H f i)) (qW W H (j % 4)) (qH W H (j % 4)) (flat (qW W H (j % 4)) (qH W H (j % 4)) (tF W H f j)) < 0
instance (W H : Nat) (f : Nat → Nat → Nat) (i j : Nat) : Decidable (ltT W H f i j) := by unfold ltT; exact inferInstance
theorem canK_min (W H : Nat) (f : Nat → Nat → Nat) : ∀ n j, j ≤ n → ¬ ltT W H f j (canK W H f n)
  | 0, j, h => by
    rw [Nat.le_zero.1 h]
    exact ordP_refl
  | n + 1, j, h => by
    have hs : canK W H f (n + 1) = if ltT W H f (n + 1) (canK W H f n) then n + 1 else canK W H f n := rfl
    rw [hs]
    by_cases hl : ltT W H f (n + 1) (canK W H f n)
    · rw [if_pos hl]
      by_cases e : j = n + 1
      · rw [e]; exact ordP_refl
      · exact fun h2 => canK_min W H f n j (by omega) (ordP_trans h2 hl)
    · rw [if_neg hl]
      by_cases e : j = n + 1
      · rw [e]; exact hl
      · exact canK_min W H f n j (by omega)
theorem mulT_onto : ∀ k, k < 8 → ∀ a, a < 8 → ∃ j, j < 8 ∧ mulT k j = a := by decide +kernel
/-- THE FIRST OF A TURNED PATTERN'S TURNS is the first of the pattern's. -/
theorem canK_turn {W H k : Nat} {f : Nat → Nat → Nat} (hk : k < 8) {W2 H2 : Nat} {g : Nat → Nat → Nat} (hW : W2 = qW W H (k % 4)) (hH : H2 = qH W H (k % 4)) (hg : ∀ x y, x < W2 → y < H2 → g x y = tF W H f k x y) :
    qW W2 H2 (canK W2 H2 g 7 % 4) = qW W H (canK W H f 7 % 4) ∧ qH W2 H2 (canK W2 H2 g 7 % 4) = qH W H (canK W H f 7 % 4) ∧
      flat (qW W2 H2 (canK W2 H2 g 7 % 4)) (qH W2 H2 (canK W2 H2 g 7 % 4)) (tF W2 H2 g (canK W2 H2 g 7)) = flat (qW W H (canK W H f 7 % 4)) (qH W H (canK W H f 7 % 4)) (tF W H f (canK W H f 7)) := by
  subst hW hH
  rw [canK_congr hg 7, tF_congr hg]
  have ha := canK_le W H f 7
  have hb := canK_le (qW W H (k % 4)) (qH W H (k % 4)) (tF W H f k) 7
  have hmin := canK_min W H f 7
  have hmin2 := canK_min (qW W H (k % 4)) (qH W H (k % 4)) (tF W H f k) 7
  generalize canK W H f 7 = a at *
  generalize canK (qW W H (k % 4)) (qH W H (k % 4)) (tF W H f k) 7 = b at *
  obtain ⟨j, hj, hja⟩ := mulT_onto k hk a (by omega)
  have h1 := hmin (mulT k b) (by have := mulT_lt k b; omega)
  have h2 := hmin2 j (by omega)
  unfold ltT at h1 h2
  rw [turn_flat hk hj, turn_flat hk (show b < 8 by omega), (turn_size hk hj).1, (turn_size hk hj).2, (turn_size hk (show b < 8 by omega)).1, (turn_size hk (show b < 8 by omega)).2, hja] at h2
  rw [turn_flat hk (show b < 8 by omega), (turn_size hk (show b < 8 by omega)).1, (turn_size hk (show b < 8 by omega)).2]
  exact ordP_same h1 h2
/-- What undoes a turn. -/
def invT (k : Nat) : Nat := if k < 4 then (4 - k) % 4 else k
theorem invT_lt {k : Nat} (h : k < 8) : invT k < 8 := by
  unfold invT
  split <;> omega
theorem mulT_inv : ∀ k, k < 8 → mulT k (invT k) = 0 := by decide +kernel
theorem turn_back {W H k : Nat} {f : Nat → Nat → Nat} (hk : k < 8) : qW (qW W H (k % 4)) (qH W H (k % 4)) (invT k % 4) = W ∧ qH (qW W H (k % 4)) (qH W H (k % 4)) (invT k % 4) = H ∧
    flat (qW (qW W H (k % 4)) (qH W H (k % 4)) (invT k % 4)) (qH (qW W H (k % 4)) (qH W H (k % 4)) (invT k % 4)) (tF (qW W H (k % 4)) (qH W H (k % 4)) (tF W H f k) (invT k)) = flat W H f := by
  have hj := invT_lt hk
  rw [turn_flat hk hj, (turn_size hk hj).1, (turn_size hk hj).2, mulT_inv k hk]
  exact ⟨rfl, rfl, rfl⟩
end Pw
end Go.Proofs.YtgagophijmiceaaDoor
