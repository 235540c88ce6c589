/- PLAIN: how often all below a level give, found place by place. -/
import Derived.Test.YtjikildiblchpaaChP1
namespace Go.Proofs.Ytjikildiblchpaa
set_option linter.unusedSimpArgs false
set_option linter.unusedVariables false
namespace Ch
open Rt (sumN sumN_le sumN_congr sumN_add sumN_zero sumN_one)

/-- How often all below a level give, as far as the first k places say. -/
structure TimesI (P : Nat) (w : Nat → Nat → Nat) (far : Nat → Nat) (D : Nat → Int) (r k : Nat) (t : Int) : Prop where
  pos : 0 ≤ t
  pay : ∀ j, j < k → far j = r → 0 ≤ D j + t * (inS P w (fun i => decide (far i < r)) j : Int)
  least : t = 0 ∨ ∃ j, j < k ∧ far j = r ∧ D j < 0 ∧ t * (inS P w (fun i => decide (far i < r)) j : Int) ≤ - D j + (inS P w (fun i => decide (far i < r)) j : Int) - 1
theorem TimesI.start {P : Nat} {w : Nat → Nat → Nat} {far : Nat → Nat} {D : Nat → Int} {r : Nat} : TimesI P w far D r 0 0 := ⟨Int.le_refl _, fun j hj => absurd hj (Nat.not_lt_zero _), .inl rfl⟩
theorem TimesI.skip {P : Nat} {w : Nat → Nat → Nat} {far : Nat → Nat} {D : Nat → Int} {r k : Nat} {t : Int} (h : TimesI P w far D r k t) (hk : far k = r → 0 ≤ D k) : TimesI P w far D r (k + 1) t := by
  refine ⟨h.pos, fun j hj hf => ?_, h.least.imp id fun ⟨j, hj, rest⟩ => ⟨j, by omega, rest⟩⟩
  by_cases e : j = k
  · have h1 := hk (by rw [← e]; exact hf)
    have h2 := Int.mul_nonneg h.pos (Int.natCast_nonneg (inS P w (fun i => decide (far i < r)) j))
    rw [e] at h2 ⊢
    omega
  · exact h.pay j (by omega) hf
theorem TimesI.more {P : Nat} {w : Nat → Nat → Nat} {far : Nat → Nat} {D : Nat → Int} {r k x g : Nat} {t : Int} (h : TimesI P w far D r k t) (hf : far k = r) (hx : D k = -(x : Int)) (h0 : 0 < x) (hg : inS P w (fun i => decide (far i < r)) k = g) (hg0 : 0 < g) :
    (t ≤ (((x + g - 1) / g : Nat) : Int) → TimesI P w far D r (k + 1) (((x + g - 1) / g : Nat) : Int)) ∧ ((((x + g - 1) / g : Nat) : Int) ≤ t → TimesI P w far D r (k + 1) t) := by
  obtain ⟨q, hq⟩ : ∃ q, q = (x + g - 1) / g := ⟨_, rfl⟩
  have h1 : q * g ≤ x + g - 1 := by rw [hq]; exact Nat.div_mul_le_self _ _
  have h2 : x ≤ q * g := by
    have h3 := Nat.lt_div_mul_add hg0 (a := x + g - 1)
    rw [← hq] at h3
    omega
  rw [← hq]
  have h1' : (q : Int) * (g : Int) ≤ (x : Int) + (g : Int) - 1 := by rw [← Int.natCast_mul]; omega
  have h2' : (x : Int) ≤ (q : Int) * (g : Int) := by rw [← Int.natCast_mul]; omega
  have hpos := h.pos
  refine ⟨fun ht => ⟨by omega, fun j hj hfj => ?_, .inr ⟨k, by omega, hf, by omega, by rw [hg, hx]; omega⟩⟩, fun ht => ⟨hpos, fun j hj hfj => ?_, h.least.imp id fun ⟨j, hj, rest⟩ => ⟨j, by omega, rest⟩⟩⟩
  · by_cases e : j = k
    · rw [e, hg, hx]; omega
    · have h5 := h.pay j (by omega) hfj
      have h6 : t * (inS P w (fun i => decide (far i < r)) j : Int) ≤ (q : Int) * (inS P w (fun i => decide (far i < r)) j : Int) := Int.mul_le_mul_of_nonneg_right ht (Int.natCast_nonneg _)
      omega
  · by_cases e : j = k
    · rw [e, hg, hx]
      have h6 : (q : Int) * (g : Int) ≤ t * (g : Int) := Int.mul_le_mul_of_nonneg_right ht (Int.natCast_nonneg _)
      omega
    · exact h.pay j (by omega) hfj
theorem TimesI.fin {P : Nat} {w : Nat → Nat → Nat} {far : Nat → Nat} {D : Nat → Int} {r : Nat} {t : Int} (h : TimesI P w far D r P t) : Times P w far D r t := ⟨h.pos, h.pay, h.least⟩
/-- Ahead of the most far nothing is owed. -/
theorem fire_none {P : Nat} {w : Nat → Nat → Nat} {D : Nat → Int} {S : Nat → Bool} {k : Nat} : fireZ P w D S 0 k = D k := by
  unfold fireZ
  split <;> simp
end Ch
end Go.Proofs.Ytjikildiblchpaa
