/- PLAIN: what is kept by a rule of a line (Hattori and Takesue's easy half); no program in sight. -/
import Derived.Test.YtahhhbdnhimbfaaDoorLnG
namespace Go.Proofs.YtahhhbdnhimbfaaDoor
set_option linter.unusedSimpArgs false
set_option linter.unusedVariables false
open Go.RowKit
namespace Ln
namespace Sm

/-- A sum of so many. -/
def sumI (F : Nat → Int) : Nat → Int
  | 0 => 0
  | n + 1 => sumI F n + F n
theorem sumI_congr {F G : Nat → Int} : ∀ {n : Nat}, (∀ i, i < n → F i = G i) → sumI F n = sumI G n
  | 0, _ => rfl
  | n + 1, h => by
    unfold sumI
    rw [sumI_congr fun i hi => h i (by omega), h n (by omega)]
theorem sumI_add {F G : Nat → Int} : ∀ {n : Nat}, sumI (fun i => F i + G i) n = sumI F n + sumI G n
  | 0 => rfl
  | n + 1 => by
    unfold sumI
    rw [sumI_add]; omega
theorem sumI_zero : ∀ {n : Nat}, sumI (fun _ => 0) n = 0
  | 0 => rfl
  | n + 1 => by
    unfold sumI
    rw [sumI_zero]; rfl
theorem sumI_tel {G : Nat → Int} : ∀ {n : Nat}, sumI (fun i => G (i + 1) - G i) n = G n - G 0
  | 0 => by simp [sumI]
  | n + 1 => by
    unfold sumI
    rw [sumI_tel]; omega
theorem sumI_swap {F : Nat → Nat → Int} {n : Nat} : ∀ {m : Nat}, sumI (fun i => sumI (fun k => F i k) m) n = sumI (fun k => sumI (fun i => F i k) n) m
  | 0 => by simp [sumI, sumI_zero]
  | m + 1 => by
    show sumI (fun i => sumI (fun k => F i k) m + F i m) n = sumI (fun k => sumI (fun i => F i k) n) m + sumI (fun i => F i m) n
    rw [sumI_add, sumI_swap]
theorem sumI_turn {G : Nat → Int} {n : Nat} (h : ∀ i, G (i + n) = G i) : ∀ c, sumI (fun i => G (i + c)) n = sumI G n
  | 0 => rfl
  | c + 1 => by
    have e : sumI (fun i => G (i + (c + 1))) n = sumI (fun i => G (i + c) + (G (i + 1 + c) - G (i + c))) n := sumI_congr fun i _ => by
      rw [show i + (c + 1) = i + 1 + c from by omega]; omega
    rw [e, sumI_add, sumI_turn h c, sumI_tel (G := fun i => G (i + c))]
    have := h c
    rw [show n + c = c + n from by omega, this, Nat.zero_add]
    omega
theorem sumI_bound {F : Nat → Int} {B : Int} : ∀ {n : Nat}, (∀ i, i < n → -B ≤ F i ∧ F i ≤ B) → -(B * n) ≤ sumI F n ∧ sumI F n ≤ B * n
  | 0, _ => by simp [sumI]
  | n + 1, h => by
    have h1 := sumI_bound (n := n) fun i hi => h i (by omega)
    have h2 := h n (by omega)
    unfold sumI
    have e : B * ((n + 1 : Nat) : Int) = B * (n : Int) + B := by push_cast; rw [Int.mul_add, Int.mul_one]
    rw [e]
    omega
/-- A window that begins with zeros. -/
def zw (x : Nat → Nat) (z fr : Nat) (i : Nat) : Nat := if z ≤ i then x (fr + i - z) else 0
/-- The weight of what becomes of so many zeros, and cells behind them. -/
def made (W : Nat → Int) (t : Nat → Nat) (st w : Nat) (x : Nat → Nat) (z fr : Nat) : Int := W (t (win st w (zw x z fr)))
/-- What a window's change comes to, the first so many. -/
def diff (W : Nat → Int) (t : Nat → Nat) (st w : Nat) (x : Nat → Nat) (k : Nat) : Int := made W t st w x (k + 1) 1 - made W t st w x (k + 1) 0
def CondW (W : Nat → Int) (t : Nat → Nat) (st w : Nat) (x : Nat → Nat) : Prop := made W t st w x 0 0 = W (x 0) + sumI (diff W t st w x) (w - 1)
def KeptW (W : Nat → Int) (t : Nat → Nat) (st w : Nat) : Prop := ∀ n, n < st ^ w → CondW W t st w (dig st w n)
theorem made_congr {W : Nat → Int} {t : Nat → Nat} {st w : Nat} {x y : Nat → Nat} {z fr : Nat} (h : ∀ i, i < w → x i = y i) (hz : fr ≤ z) : made W t st w x z fr = made W t st w y z fr := by
  unfold made
  congr 2
  refine win_congr fun i hi => ?_
  unfold zw
  split
  · exact h _ (by omega)
  · rfl
theorem cond_congr {W : Nat → Int} {t : Nat → Nat} {st w : Nat} {x y : Nat → Nat} (hw : 1 ≤ w) (h : ∀ i, i < w → x i = y i) (hc : CondW W t st w x) : CondW W t st w y := by
  unfold CondW at hc ⊢
  rw [← made_congr h (Nat.le_refl 0), ← h 0 (by omega), hc]
  congr 1
  refine sumI_congr fun k hk => ?_
  unfold diff
  rw [made_congr h (by omega), made_congr h (by omega)]
theorem kept_all {W : Nat → Int} {t : Nat → Nat} {st w : Nat} (hw : 1 ≤ w) (hk : KeptW W t st w) {x : Nat → Nat} (hx : ∀ i, x i < st) : CondW W t st w x :=
  cond_congr hw (fun i hi => dig_win (fun k _ => hx k) hi) (hk _ (win_lt fun k _ => hx k))
/-- WHAT IS KEPT IS KEPT. -/
theorem kept_ring {W : Nat → Int} {t : Nat → Nat} {st R n : Nat} {v : Nat → Nat} (hn : 0 < n) (hk : KeptW W t st (2 * R + 1)) (hv : ∀ i, v i < st) :
    sumI (fun i => W (stp t st R n v i)) n = sumI (fun i => W (v i)) n := by
  obtain ⟨y, hy⟩ : ∃ y : Nat → Nat, y = fun j => v (ix n R j) := ⟨_, rfl⟩
  have hper : ∀ i, y (i + n) = y i := fun i => by
    rw [hy]
    show v (ix n R (i + n)) = v (ix n R i)
    rw [← ix_mod hn, Nat.add_mod_right, ix_mod hn]
  have h1 : sumI (fun i => W (stp t st R n v i)) n = sumI (fun i => W (y i) + sumI (fun k => made W t st (2 * R + 1) (fun j => y (i + 1 + j)) (k + 1) 0 - made W t st (2 * R + 1) (fun j => y (i + j)) (k + 1) 0) (2 * R)) n := by
    refine sumI_congr fun i hi => ?_
    have hc := kept_all (by omega) hk (x := fun j => y (i + j)) (fun j => by rw [hy]; exact hv _)
    unfold CondW at hc
    have e1 : made W t st (2 * R + 1) (fun j => y (i + j)) 0 0 = W (stp t st R n v i) := by
      unfold made stp
      congr 2
      refine win_congr fun j hj => ?_
      unfold zw
      rw [if_pos (Nat.zero_le _), hy]
      simp
    rw [e1] at hc
    rw [hc, show 2 * R + 1 - 1 = 2 * R from by omega]
    show W (y i) + _ = _
    congr 1
    refine sumI_congr fun k hk => ?_
    unfold diff
    congr 1
    unfold made
    congr 2
    refine win_congr fun j hj => ?_
    unfold zw
    split
    · show y (i + (1 + j - (k + 1))) = y (i + 1 + (0 + j - (k + 1)))
      rw [show i + (1 + j - (k + 1)) = i + 1 + (0 + j - (k + 1)) from by omega]
    · rfl
  rw [h1, sumI_add, sumI_swap]
  have h2 : sumI (fun k => sumI (fun i => made W t st (2 * R + 1) (fun j => y (i + 1 + j)) (k + 1) 0 - made W t st (2 * R + 1) (fun j => y (i + j)) (k + 1) 0) n) (2 * R) = 0 := by
    rw [← sumI_zero (n := 2 * R)]
    refine sumI_congr fun k hk => ?_
    rw [sumI_tel (G := fun i => made W t st (2 * R + 1) (fun j => y (i + j)) (k + 1) 0)]
    have e : (fun j => y (n + j)) = fun j => y (0 + j) := funext fun j => by rw [Nat.add_comm n j, hper, Nat.zero_add]
    rw [e]
    omega
  rw [h2, Int.add_zero]
  have h3 := sumI_turn (G := fun i => W (y i)) (n := n) (fun i => by rw [hper]) R
  rw [← h3]
  refine sumI_congr fun i hi => ?_
  show W (y (i + R)) = W (v i)
  rw [hy]
  show W (v (ix n R (i + R))) = _
  have : ix n R (i + R) = i := by
    unfold ix
    rw [show i + R + R * n - R = i + R * n from by omega, Nat.add_mul_mod_self_right, Nat.mod_eq_of_lt hi]
  rw [this]
end Sm
end Ln
end Go.Proofs.YtahhhbdnhimbfaaDoor
