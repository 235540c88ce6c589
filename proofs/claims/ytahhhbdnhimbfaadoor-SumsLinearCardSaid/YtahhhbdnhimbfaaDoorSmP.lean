/- PLAIN: weights are kept where there are heights (Hattori and Takesue's other half); no program in sight. -/
import Derived.Test.YtahhhbdnhimbfaaDoorSmPl
namespace Go.Proofs.YtahhhbdnhimbfaaDoor
set_option linter.unusedSimpArgs false
set_option linter.unusedVariables false
open Go.RowKit
namespace Ln
namespace Sm

theorem win_front {st : Nat} : ∀ (m : Nat) (f : Nat → Nat), win st (m + 1) f = f 0 * st ^ m + win st m fun i => f (i + 1)
  | 0, f => by simp [win]
  | m + 1, f => by
    have ih := win_front (st := st) m f
    show win st (m + 1) f * st + f (m + 1) = _
    rw [ih, Nat.add_mul, Nat.mul_assoc, ← Nat.pow_succ, Nat.add_assoc]
    rfl
theorem win_tail {st m : Nat} {f : Nat → Nat} (hf : ∀ k, f k < st) : win st (m + 1) f % st ^ m = win st m fun i => f (i + 1) := by
  rw [win_front, Nat.add_comm, Nat.add_mul_mod_self_right, Nat.mod_eq_of_lt (win_lt fun k _ => hf _)]
theorem win_dig {st : Nat} (hs : 0 < st) : ∀ (n N : Nat), N < st ^ n → win st n (dig st n N) = N
  | 0, N, h => by
    have : N = 0 := by simpa using h
    rw [this]; rfl
  | n + 1, N, h => by
    have h1 : N / st < st ^ n := by
      rw [Nat.pow_succ] at h
      exact Nat.div_lt_of_lt_mul (by rw [Nat.mul_comm]; exact h)
    have h2 : win st n (dig st (n + 1) N) = N / st := by
      refine Eq.trans (win_congr fun k hk => ?_) (win_dig hs n (N / st) h1)
      unfold dig
      rw [Nat.div_div_eq_div_mul, Nat.mul_comm st, ← Nat.pow_succ, show (n - 1 - k).succ = n + 1 - 1 - k from by omega]
    have h3 : dig st (n + 1) N n = N % st := by
      unfold dig
      rw [show n + 1 - 1 - n = 0 from by omega, Nat.pow_zero, Nat.div_one]
    show win st n (dig st (n + 1) N) * st + dig st (n + 1) N n = N
    rw [h2, h3, Nat.mul_comm]
    exact Nat.div_add_mod N st
/-- Heights: what a window makes and what it takes is a step from one height to another. -/
def Pot (W : Nat → Int) (t : Nat → Nat) (st m : Nat) (h : Nat → Int) : Prop := ∀ p c, p < st ^ m → c < st → h ((p * st + c) % st ^ m) = h p + W (t (p * st + c)) - W c
theorem pot_win {W : Nat → Int} {t : Nat → Nat} {st m : Nat} {h : Nat → Int} (hp : Pot W t st m h) {f : Nat → Nat} (hf : ∀ k, f k < st) :
    h (win st m fun i => f (i + 1)) = h (win st m f) + W (t (win st (m + 1) f)) - W (f m) := by
  have := hp (win st m f) (f m) (win_lt fun k _ => hf k) (hf m)
  rw [show win st m f * st + f m = win st (m + 1) f from rfl, win_tail hf] at this
  exact this
theorem kept_of_pot {W : Nat → Int} {t : Nat → Nat} {st m : Nat} {h : Nat → Int} (hst : 0 < st) (hp : Pot W t st m h) : KeptW W t st (m + 1) := fun N hN => by
  obtain ⟨x, hx⟩ : ∃ x, x = dig st (m + 1) N := ⟨_, rfl⟩
  have hxl : ∀ k, x k < st := fun k => by rw [hx]; exact dig_lt hst
  rw [← hx]
  clear hx hN
  have hz : ∀ z fr k, zw x z fr k < st := fun z fr k => by
    unfold zw
    split
    · exact hxl _
    · exact hst
  have hmade : ∀ k fr, k < m → made W t st (m + 1) x (k + 1) fr = W (x (fr + m - (k + 1))) + h (win st m (zw x k fr)) - h (win st m (zw x (k + 1) fr)) := fun k fr hk => by
    have h1 := pot_win hp (hz (k + 1) fr)
    have h2 : (fun i => zw x (k + 1) fr (i + 1)) = zw x k fr := funext fun i => by
      unfold zw
      by_cases hki : k ≤ i
      · rw [if_pos (by omega), if_pos hki, show fr + (i + 1) - (k + 1) = fr + i - k from by omega]
      · rw [if_neg (by omega), if_neg hki]
    have h3 : zw x (k + 1) fr m = x (fr + m - (k + 1)) := by
      unfold zw
      rw [if_pos (by omega)]
    rw [h2, h3] at h1
    show W (t (win st (m + 1) (zw x (k + 1) fr))) = _
    omega
  have h0 : made W t st (m + 1) x 0 0 = W (x m) + h (win st m (zw x 0 1)) - h (win st m (zw x 0 0)) := by
    have h1 := pot_win hp (hz 0 0)
    have h2 : (fun i => zw x 0 0 (i + 1)) = zw x 0 1 := funext fun i => by
      unfold zw
      rw [if_pos (by omega), if_pos (by omega), show 0 + (i + 1) - 0 = 1 + i - 0 from by omega]
    have h3 : zw x 0 0 m = x m := by
      unfold zw
      rw [if_pos (by omega)]
      simp
    rw [h2, h3] at h1
    show W (t (win st (m + 1) (zw x 0 0))) = _
    omega
  unfold CondW
  rw [h0, show m + 1 - 1 = m from by omega]
  have hd : sumI (diff W t st (m + 1) x) m = sumI (fun k => (-W (x (m - (k + 1))) + h (win st m (zw x (k + 1) 0)) - h (win st m (zw x (k + 1) 1))) - (-W (x (m - k)) + h (win st m (zw x k 0)) - h (win st m (zw x k 1)))) m := by
    refine sumI_congr fun k hk => ?_
    unfold diff
    rw [hmade k 1 hk, hmade k 0 hk, show 1 + m - (k + 1) = m - k from by omega, show 0 + m - (k + 1) = m - (k + 1) from by omega]
    omega
  rw [hd, sumI_tel (G := fun k => -W (x (m - k)) + h (win st m (zw x k 0)) - h (win st m (zw x k 1)))]
  have he : win st m (zw x m 0) = win st m (zw x m 1) := win_congr fun i hi => by
    unfold zw
    rw [if_neg (by omega), if_neg (by omega)]
  rw [he, Nat.sub_self, Nat.sub_zero]
  omega
/-- The heights that a rule shows. -/
def heit (W : Nat → Int) (t : Nat → Nat) (st m p : Nat) : Int := sumI (fun k => made W t st (m + 1) (dig st m p) (k + 1) 0) m - sumI (fun i => W (dig st m p i)) m
theorem heit_win {W : Nat → Int} {t : Nat → Nat} {st m : Nat} {f : Nat → Nat} (hf : ∀ k, f k < st) : heit W t st m (win st m f) = sumI (fun k => made W t st (m + 1) f (k + 1) 0) m - sumI (fun i => W (f i)) m := by
  unfold heit
  have e : ∀ i, i < m → dig st m (win st m f) i = f i := fun i hi => dig_win (fun k _ => hf k) hi
  have e1 : sumI (fun i => W (dig st m (win st m f) i)) m = sumI (fun i => W (f i)) m := sumI_congr fun i hi => by rw [e i hi]
  have e2 : sumI (fun k => made W t st (m + 1) (dig st m (win st m f)) (k + 1) 0) m = sumI (fun k => made W t st (m + 1) f (k + 1) 0) m := sumI_congr fun k hk => by
    unfold made
    congr 2
    refine win_congr fun i hi => ?_
    unfold zw
    split
    · exact e _ (by omega)
    · rfl
  rw [e1, e2]
theorem pot_of_kept {W : Nat → Int} {t : Nat → Nat} {st m : Nat} (hst : 0 < st) (hk : KeptW W t st (m + 1)) : Pot W t st m (heit W t st m) := fun p c hp hc => by
  obtain ⟨f, hf⟩ : ∃ f : Nat → Nat, f = dig st (m + 1) (p * st + c) := ⟨_, rfl⟩
  have hfl : ∀ k, f k < st := fun k => by rw [hf]; exact dig_lt hst
  have hN : p * st + c < st ^ (m + 1) := by
    have h1 : (p + 1) * st ≤ st ^ m * st := Nat.mul_le_mul_right st hp
    rw [Nat.succ_mul] at h1
    rw [Nat.pow_succ]
    omega
  have hcond := hk _ hN
  rw [← hf] at hcond
  have hwin : win st (m + 1) f = p * st + c := by rw [hf]; exact win_dig hst _ _ hN
  have hpair : win st m f * st + f m = p * st + c := hwin
  have hfm : f m < st := hfl m
  have hp1 : win st m f = p := by
    have h1 : (win st m f * st + f m) / st = win st m f := by rw [Nat.add_comm, Nat.add_mul_div_right _ _ hst, Nat.div_eq_of_lt hfm, Nat.zero_add]
    have h2 : (p * st + c) / st = p := by rw [Nat.add_comm, Nat.add_mul_div_right _ _ hst, Nat.div_eq_of_lt hc, Nat.zero_add]
    rw [← h1, hpair, h2]
  have hc1 : f m = c := by rw [hp1] at hpair; omega
  rw [← hwin, win_tail hfl, ← hp1, heit_win hfl, heit_win (fun k => hfl _), ← hc1]
  unfold CondW at hcond
  rw [show m + 1 - 1 = m from by omega] at hcond
  have e1 : made W t st (m + 1) f 0 0 = W (t (win st (m + 1) f)) := by
    unfold made
    congr 2
    refine win_congr fun i _ => ?_
    unfold zw
    rw [if_pos (Nat.zero_le _)]
    simp
  have e2 : sumI (diff W t st (m + 1) f) m + sumI (fun k => made W t st (m + 1) f (k + 1) 0) m = sumI (fun k => made W t st (m + 1) (fun i => f (i + 1)) (k + 1) 0) m := by
    rw [← sumI_add]
    refine sumI_congr fun k hk => ?_
    have e3 : made W t st (m + 1) (fun i => f (i + 1)) (k + 1) 0 = made W t st (m + 1) f (k + 1) 1 := by
      unfold made
      congr 2
      refine win_congr fun i _ => ?_
      unfold zw
      split
      · show f (0 + i - (k + 1) + 1) = f (1 + i - (k + 1))
        rw [show 0 + i - (k + 1) + 1 = 1 + i - (k + 1) from by omega]
      · rfl
    rw [e3]
    unfold diff
    omega
  have e4 : sumI (fun i => W (f (i + 1))) m = sumI (fun i => W (f i)) m + W (f m) - W (f 0) := by
    have h1 := sumI_tel (G := fun i => W (f i)) (n := m)
    have h2 : sumI (fun i => W (f (i + 1))) m = sumI (fun i => W (f i) + (W (f (i + 1)) - W (f i))) m := sumI_congr fun i _ => by omega
    rw [h2, sumI_add, h1]
    omega
  rw [e1] at hcond
  rw [e4]
  omega
end Sm
end Ln
end Go.Proofs.YtahhhbdnhimbfaaDoor
