/- PLAIN: debts go to the place, level by level (how great numbers come to be); what burns; what gives then. -/
import Derived.Test.YtjikildiblchpaaChPl
namespace Go.Proofs.Ytjikildiblchpaa
set_option linter.unusedSimpArgs false
set_option linter.unusedVariables false
namespace Ch
open Rt (btw deg Btw eA eB eT EdgeN ConnG GOk sumN sumN_le sumN_congr sumN_add sumN_zero sumN_one ind ind_yes ind_no ind_le ind_imp sumN_pickF sumN_pick)

/-- How far places are from one. -/
structure FarOk (P : Nat) (w : Nat → Nat → Nat) (a : Nat) (far : Nat → Nat) : Prop where
  zero : ∀ k, k < P → (far k = 0 ↔ k = a)
  near : ∀ k, k < P → k ≠ a → ∃ o, o < P ∧ 0 < w k o ∧ far o + 1 = far k
  lip : ∀ k o, k < P → o < P → 0 < w k o → far k ≤ far o + 1
/-- How great debts can be, behind so many levels of one place, of more. -/
def Bd (s d : Nat) : Int := (1100 + 5200 * (s : Int) + 1100 * (d : Int)) * 4000 ^ d
theorem pow_pos4 (d : Nat) : (1 : Int) ≤ 4000 ^ d := by
  induction d with
  | zero => exact Int.le_refl _
  | succ d ih => rw [Int.pow_succ]; omega
theorem Bd_pos (s d : Nat) : 1100 ≤ Bd s d := by
  have h := pow_pos4 d
  have h1 : (1100 + 5200 * (s : Int) + 1100 * (d : Int)) * 1 ≤ Bd s d := Int.mul_le_mul_of_nonneg_left h (by omega)
  omega
theorem Bd_one (s d : Nat) : Bd s d + 5200 ≤ Bd (s + 1) d := by
  have h := pow_pos4 d
  unfold Bd
  have e : (1100 + 5200 * ((s + 1 : Nat) : Int) + 1100 * (d : Int)) * 4000 ^ d = (1100 + 5200 * (s : Int) + 1100 * (d : Int)) * 4000 ^ d + 5200 * 4000 ^ d := by
    rw [← Int.add_mul]; congr 1; omega
  rw [e]; omega
theorem Bd_two (s d : Nat) : 4000 * Bd s d + 1100 ≤ Bd s (d + 1) := by
  have h := pow_pos4 d
  unfold Bd
  rw [Int.pow_succ, show ((d + 1 : Nat) : Int) = (d : Int) + 1 from by omega]
  generalize (4000 : Int) ^ d = p at *
  have e : (1100 + 5200 * (s : Int) + 1100 * ((d : Int) + 1)) * (p * 4000) = 4000 * ((1100 + 5200 * (s : Int) + 1100 * (d : Int)) * p) + 4400000 * p := by grind
  rw [e]; omega
theorem Bd_top {s d : Nat} (h : s + 2 * d ≤ 9) : Bd s d ≤ 3000000000000000000 := by
  unfold Bd
  match d, h with
  | 0, h => simp only [Int.pow_zero]; omega
  | 1, h => simp only [Int.pow_succ, Int.pow_zero]; omega
  | 2, h => simp only [Int.pow_succ, Int.pow_zero]; omega
  | 3, h => simp only [Int.pow_succ, Int.pow_zero]; omega
  | 4, h => simp only [Int.pow_succ, Int.pow_zero]; omega
  | d + 5, h => omega
/-- Where one stands when levels above r are through. -/
structure P1 (P : Nat) (w : Nat → Nat → Nat) (far : Nat → Nat) (D0 : Nat → Int) (r : Nat) (D : Nat → Int) (s d : Nat) : Prop where
  eqv : Eqv P w D0 D
  up : ∀ k, k < P → r < far k → 0 ≤ D k
  hi : ∀ k, k < P → D k ≤ 1100 + Bd s d
  hi0 : ∀ k, k < P → far k ≤ r → D k ≤ 1100
  lo : ∀ k, k < P → - Bd s d ≤ D k
  new : ∀ k, k < P → far k < r → -1100 ≤ D k
  cnt : s + 2 * d ≤ sumN (fun k => ind (r < far k)) P
theorem P1.start {P : Nat} {w : Nat → Nat → Nat} {far : Nat → Nat} {D : Nat → Int} {r : Nat} (h : ∀ k, k < P → -1100 ≤ D k ∧ D k ≤ 1100) (hr : ∀ k, k < P → far k ≤ r) : P1 P w far D r D 0 0 where
  eqv := .refl
  up := fun k hk hl => by have := hr k hk; omega
  hi := fun k hk => by have := h k hk; have := Bd_pos 0 0; omega
  hi0 := fun k hk _ => (h k hk).2
  lo := fun k hk => by have := h k hk; have := Bd_pos 0 0; omega
  new := fun k hk _ => (h k hk).1
  cnt := Nat.zero_le _
/-- How often all below a level give, for none on it to be in debt. -/
structure Times (P : Nat) (w : Nat → Nat → Nat) (far : Nat → Nat) (D : Nat → Int) (r : Nat) (t : Int) : Prop where
  pos : 0 ≤ t
  pay : ∀ k, k < P → far k = r → 0 ≤ D k + t * (inS P w (fun j => decide (far j < r)) k : Int)
  least : t = 0 ∨ ∃ k, k < P ∧ far k = r ∧ D k < 0 ∧ t * (inS P w (fun j => decide (far j < r)) k : Int) ≤ - D k + (inS P w (fun j => decide (far j < r)) k : Int) - 1
theorem inS_le {P : Nat} {w : Nat → Nat → Nat} (hG : Gr P w) {S : Nat → Bool} {k : Nat} (hk : k < P) : inS P w S k ≤ 4000 := Nat.le_trans (sumN_le fun o _ => by split <;> omega) (hG.few k hk)
theorem outS_le {P : Nat} {w : Nat → Nat → Nat} (hG : Gr P w) {S : Nat → Bool} {k : Nat} (hk : k < P) : outS P w S k ≤ 4000 := Nat.le_trans (sumN_le fun o _ => by split <;> omega) (hG.few k hk)
theorem get_pos {P : Nat} {w : Nat → Nat → Nat} {a : Nat} {far : Nat → Nat} (hF : FarOk P w a far) {k r : Nat} (hk : k < P) (hr : far k = r) (h0 : 0 < r) : 0 < inS P w (fun j => decide (far j < r)) k := by
  obtain ⟨o, ho, hw, he⟩ := hF.near k hk fun e => by have := (hF.zero k hk).2 e; omega
  have h1 := sumN_one (F := fun j => if (decide (far j < r)) = true then w k j else 0) (a := o) (n := P) ho
  have h2 : (if decide (far o < r) = true then w k o else 0) = w k o := if_pos (decide_eq_true (by omega))
  show 0 < sumN (fun j => if decide (far j < r) = true then w k j else 0) P
  omega
theorem P1.step {P : Nat} {w : Nat → Nat → Nat} (hG : Gr P w) {a : Nat} {far : Nat → Nat} (hF : FarOk P w a far) {D0 D : Nat → Int} {r s d : Nat} {t : Int} (h : P1 P w far D0 (r + 1) D s d) (ht : Times P w far D (r + 1) t) :
    ∃ s' d', P1 P w far D0 r (fireZ P w D (fun j => decide (far j < r + 1)) t) s' d' := by
  have hcnt : sumN (fun k => ind (r < far k)) P = sumN (fun k => ind (r + 1 < far k)) P + sumN (fun k => ind (far k = r + 1)) P := by
    rw [← sumN_add]
    refine sumN_congr fun k _ => ?_
    unfold ind
    by_cases h1 : r + 1 < far k
    · rw [if_pos (by omega), if_pos h1, if_neg (by omega)]
    · by_cases h2 : far k = r + 1
      · rw [if_pos (by omega), if_neg h1, if_pos h2]
      · rw [if_neg (by omega), if_neg h1, if_neg h2]
  have hin : ∀ k, k < P → far k < r + 1 → fireZ P w D (fun j => decide (far j < r + 1)) t k = D k - t * (outS P w (fun j => decide (far j < r + 1)) k : Int) := fun k _ hk => if_pos (decide_eq_true hk)
  have hout : ∀ k, k < P → ¬ far k < r + 1 → fireZ P w D (fun j => decide (far j < r + 1)) t k = D k + t * (inS P w (fun j => decide (far j < r + 1)) k : Int) := fun k _ hk => if_neg (by simpa using hk)
  have hfar : ∀ k, k < P → r + 1 < far k → fireZ P w D (fun j => decide (far j < r + 1)) t k = D k := fun k hk hl => by
    rw [hout k hk (by omega)]
    have : inS P w (fun j => decide (far j < r + 1)) k = 0 := by
      unfold inS
      rw [sumN_congr (G := fun _ => 0) fun o ho => ?_, sumN_zero]
      by_cases e : far o < r + 1
      · rw [if_pos (decide_eq_true e)]
        refine Classical.byContradiction fun hn => ?_
        have := hF.lip k o hk ho (by omega)
        omega
      · rw [if_neg (by simpa using e)]
    rw [this]; simp
  have hnear : ∀ k, k < P → far k < r → fireZ P w D (fun j => decide (far j < r + 1)) t k = D k := fun k hk hl => by
    rw [hin k hk (by omega)]
    have : outS P w (fun j => decide (far j < r + 1)) k = 0 := by
      unfold outS
      rw [sumN_congr (G := fun _ => 0) fun o ho => ?_, sumN_zero]
      by_cases e : far o < r + 1
      · rw [if_pos (decide_eq_true e)]
      · rw [if_neg (by simpa using e)]
        refine Classical.byContradiction fun hn => ?_
        have := hF.lip o k ho hk (by rw [hG.sym]; omega)
        omega
    rw [this]; simp
  have hB0 := Bd_pos s d
  have htp := ht.pos
  -- how much is lost, how much comes
  suffices hs : ∃ s' d', s' + 2 * d' ≤ s + 2 * d + sumN (fun k => ind (far k = r + 1)) P ∧ Bd s d ≤ Bd s' d' ∧ (∀ k, k < P → far k = r → t * (outS P w (fun j => decide (far j < r + 1)) k : Int) ≤ Bd s' d' - 1100) ∧ (∀ k, k < P → far k = r + 1 → D k + t * (inS P w (fun j => decide (far j < r + 1)) k : Int) ≤ 1100 + Bd s' d') by
    obtain ⟨s', d', c1, c2, c3, c4⟩ := hs
    refine ⟨s', d', h.eqv.trans fire_eqv, fun k hk hl => ?_, fun k hk => ?_, fun k hk hl => ?_, fun k hk => ?_, fun k hk hl => ?_, ?_⟩
    · by_cases e : far k = r + 1
      · rw [hout k hk (by omega)]
        exact ht.pay k hk e
      · rw [hfar k hk (by omega)]
        exact h.up k hk (by omega)
    · have := h.hi k hk
      by_cases e1 : far k < r + 1
      · rw [hin k hk e1]
        have := Int.mul_nonneg htp (Int.natCast_nonneg (outS P w (fun j => decide (far j < r + 1)) k))
        omega
      · by_cases e : far k = r + 1
        · rw [hout k hk (by omega)]
          exact c4 k hk e
        · rw [hfar k hk (by omega)]
          omega
    · rw [hin k hk (by omega)]
      have := h.hi0 k hk (by omega)
      have := Int.mul_nonneg htp (Int.natCast_nonneg (outS P w (fun j => decide (far j < r + 1)) k))
      omega
    · have := h.lo k hk
      by_cases e1 : far k < r
      · rw [hnear k hk e1]; omega
      · by_cases e2 : far k = r
        · rw [hin k hk (by omega)]
          have := c3 k hk e2
          have := h.new k hk (by omega)
          omega
        · rw [hout k hk (by omega)]
          have := Int.mul_nonneg htp (Int.natCast_nonneg (inS P w (fun j => decide (far j < r + 1)) k))
          omega
    · rw [hnear k hk hl]
      exact h.new k hk (by omega)
    · rw [hcnt]
      have := h.cnt
      omega
  by_cases hex : ∃ k, k < P ∧ far k = r + 1
  · obtain ⟨k0, hk0, hf0⟩ := hex
    have hone : 1 ≤ sumN (fun k => ind (far k = r + 1)) P := by
      have h1 := sumN_one (F := fun k => ind (far k = r + 1)) (a := k0) (n := P) hk0
      have h2 : ind (far k0 = r + 1) = 1 := ind_yes hf0
      omega
    by_cases hu : ∀ k, k < P → far k = r + 1 → k = k0
    · -- one place alone
      have hb1 := Bd_one s d
      have hL : t * (inS P w (fun j => decide (far j < r + 1)) k0 : Int) ≤ Bd s d + 4000 := by
        rcases ht.least with e | ⟨k, hk, hfk, _, hle⟩
        · rw [e]; omega
        · obtain rfl := hu k hk hfk
          have := h.lo k hk
          have := inS_le hG (S := fun j => decide (far j < r + 1)) hk
          omega
      refine ⟨s + 1, d, by omega, by omega, fun k hk hfk => ?_, fun k hk hfk => ?_⟩
      · have e1 : outS P w (fun j => decide (far j < r + 1)) k ≤ inS P w (fun j => decide (far j < r + 1)) k0 := by
          have e2 : outS P w (fun j => decide (far j < r + 1)) k ≤ w k k0 := by
            unfold outS
            have e3 := sumN_pickF (a := k0) (F := fun o => w k o) (n := P)
            rw [if_pos hk0] at e3
            rw [← e3]
            refine sumN_le fun o ho => ?_
            by_cases e : far o < r + 1
            · rw [if_pos (decide_eq_true e)]; exact Nat.zero_le _
            · rw [if_neg (by simpa using e)]
              by_cases e4 : k0 = o
              · rw [if_pos e4]; exact Nat.le_refl _
              · rw [if_neg e4]
                refine Nat.le_of_not_lt fun hn => ?_
                have := hF.lip o k ho hk (by rw [hG.sym]; exact hn)
                exact e4 (hu o ho (by omega)).symm
          have e5 := sumN_one (F := fun j => if (decide (far j < r + 1)) = true then w k0 j else 0) (a := k) (n := P) hk
          have e6 : (if decide (far k < r + 1) = true then w k0 k else 0) = w k0 k := if_pos (decide_eq_true (by omega))
          have e7 := hG.sym k k0
          have e8 : inS P w (fun j => decide (far j < r + 1)) k0 = sumN (fun j => if decide (far j < r + 1) = true then w k0 j else 0) P := rfl
          omega
        have : t * (outS P w (fun j => decide (far j < r + 1)) k : Int) ≤ t * (inS P w (fun j => decide (far j < r + 1)) k0 : Int) := Int.mul_le_mul_of_nonneg_left (by omega) htp
        omega
      · obtain rfl := hu k hk hfk
        have := h.hi0 k hk (by omega)
        omega
    · -- more of them
      obtain ⟨k1, hk1, hf1, hne⟩ : ∃ k, k < P ∧ far k = r + 1 ∧ k ≠ k0 := by
        refine Classical.byContradiction fun hn => hu fun k hk hf => Classical.byContradiction fun e => hn ⟨k, hk, hf, e⟩
      have htwo : 2 ≤ sumN (fun k => ind (far k = r + 1)) P := by
        have h1 : sumN (fun k => ind (k0 = k)) P + sumN (fun k => ind (k1 = k)) P ≤ sumN (fun k => ind (far k = r + 1)) P := by
          rw [← sumN_add]
          refine sumN_le fun k hk => ?_
          unfold ind
          by_cases e0 : k0 = k
          · rw [if_pos e0, if_neg (fun e => hne (e.trans e0.symm)), if_pos (by rw [← e0]; exact hf0)]; omega
          · by_cases e1 : k1 = k
            · rw [if_neg e0, if_pos e1, if_pos (by rw [← e1]; exact hf1)]; omega
            · rw [if_neg e0, if_neg e1]; exact Nat.zero_le _
        rw [sumN_pick, sumN_pick, ind_yes hk0, ind_yes hk1] at h1
        exact h1
      have hb2 := Bd_two s d
      have htB : t ≤ Bd s d := by
        rcases ht.least with e | ⟨k, hk, hfk, hneg, hle⟩
        · rw [e]; omega
        · have hg := get_pos hF hk hfk (by omega)
          have := h.lo k hk
          have h4 : ((inS P w (fun j => decide (far j < r + 1)) k : Int) - 1) * (t - 1) + (t - 1) = (inS P w (fun j => decide (far j < r + 1)) k : Int) * (t - 1) := by
            rw [Int.sub_mul, Int.one_mul]; omega
          have h6 : (inS P w (fun j => decide (far j < r + 1)) k : Int) * (t - 1) = t * (inS P w (fun j => decide (far j < r + 1)) k : Int) - (inS P w (fun j => decide (far j < r + 1)) k : Int) := by
            rw [Int.mul_sub, Int.mul_one, Int.mul_comm]
          by_cases h0 : t ≤ 0
          · omega
          · have h5 := Int.mul_nonneg (show 0 ≤ (inS P w (fun j => decide (far j < r + 1)) k : Int) - 1 by omega) (show 0 ≤ t - 1 by omega)
            omega
      have hmul : ∀ n : Nat, n ≤ 4000 → t * (n : Int) ≤ 4000 * Bd s d := fun n hn => by
        have h1 : t * (n : Int) ≤ t * 4000 := Int.mul_le_mul_of_nonneg_left (by omega) htp
        omega
      refine ⟨s, d + 1, by omega, by omega, fun k hk hfk => ?_, fun k hk hfk => ?_⟩
      · have := hmul _ (outS_le hG (S := fun j => decide (far j < r + 1)) hk)
        omega
      · have := hmul _ (inS_le hG (S := fun j => decide (far j < r + 1)) hk)
        have := h.hi0 k hk (by omega)
        omega
  · have ht0 : t = 0 := by
      rcases ht.least with e | ⟨k, hk, hfk, _⟩
      · exact e
      · exact absurd ⟨k, hk, hfk⟩ hex
    refine ⟨s, d, by omega, Int.le_refl _, fun k hk _ => ?_, fun k hk hfk => absurd ⟨k, hk, hfk⟩ hex⟩
    rw [ht0]; omega
/-- All debts have gone to the place. -/
theorem P1.fin {P : Nat} {w : Nat → Nat → Nat} (hG : Gr P w) {a : Nat} {far : Nat → Nat} (hF : FarOk P w a far) {D0 D : Nat → Int} {s d : Nat} (ha : a < P) (h : P1 P w far D0 0 D s d) :
    Eqv P w D0 D ∧ (∀ k, k < P → k ≠ a → 0 ≤ D k) ∧ (∀ k, k < P → -3000000000000000000 ≤ D k ∧ D k ≤ 3000000000000001100) := by
  have hc : sumN (fun k => ind (0 < far k)) P + 1 ≤ P := by
    have h1 : sumN (fun k => ind (0 < far k)) P + sumN (fun k => ind (a = k)) P ≤ sumN (fun _ => 1) P := by
      rw [← sumN_add]
      refine sumN_le fun k hk => ?_
      unfold ind
      by_cases e : a = k
      · have := (hF.zero k hk).2 e.symm
        rw [if_neg (by omega), if_pos e]; omega
      · rw [if_neg e]; split <;> omega
    rw [sumN_pick, ind_yes ha, Rt.sumN_const] at h1
    omega
  have h9 : s + 2 * d ≤ 9 := by
    have := h.cnt
    have := hG.p10
    omega
  have hB := Bd_top h9
  refine ⟨h.eqv, fun k hk hne => h.up k hk (by have := (hF.zero k hk); omega), fun k hk => ?_⟩
  have := h.lo k hk
  have := h.hi k hk
  omega
/-- What has burnt, from the place on. -/
structure Burn (P : Nat) (w : Nat → Nat → Nat) (D : Nat → Int) (a : Nat) (b : Nat → Bool) : Prop where
  at0 : b a = true
  none : ∀ S, Legal P w D a S → ∀ k, k < P → b k = true → S k = false
def setB (b : Nat → Bool) (k : Nat) (v : Bool) (j : Nat) : Bool := if j = k then v else b j
theorem Burn.start {P : Nat} {w : Nat → Nat → Nat} {D : Nat → Int} {a : Nat} : Burn P w D a (fun k => decide (k = a)) :=
  ⟨decide_eq_true rfl, fun S h k _ hb => by rw [of_decide_eq_true hb]; exact h.no⟩
theorem Burn.step {P : Nat} {w : Nat → Nat → Nat} {D : Nat → Int} {a : Nat} {b : Nat → Bool} (h : Burn P w D a b) {k : Nat} (hk : k < P) (hl : D k < (inS P w b k : Int)) : Burn P w D a (setB b k true) := by
  refine ⟨?_, fun S hS j hj hb => ?_⟩
  · unfold setB
    split
    · rfl
    · exact h.at0
  · by_cases e : j = k
    · subst e
      refine Classical.byContradiction fun hn => ?_
      have hn : S j = true := by cases hs : S j; exact absurd hs hn; rfl
      have h1 := hS.can j hk hn
      have h2 : inS P w b j ≤ outS P w S j := by
        unfold inS outS
        refine sumN_le fun o ho => ?_
        by_cases eb : b o = true
        · rw [if_pos eb, if_neg (by rw [h.none S hS o ho eb]; decide)]; exact Nat.le_refl _
        · rw [if_neg eb]; exact Nat.zero_le _
      omega
    · unfold setB at hb
      rw [if_neg e] at hb
      exact h.none S hS j hj hb
theorem Burn.all {P : Nat} {w : Nat → Nat → Nat} {D : Nat → Int} {a : Nat} {b : Nat → Bool} (h : Burn P w D a b) (hp : ∀ k, k < P → k ≠ a → 0 ≤ D k) (hb : ∀ k, k < P → b k = true) : Reduced P w D a :=
  ⟨hp, fun S hS k hk => h.none S hS k hk (hb k hk)⟩
theorem inS_not {P : Nat} {w : Nat → Nat → Nat} {b : Nat → Bool} {k : Nat} : outS P w (fun j => !b j) k = inS P w b k := by
  unfold inS outS
  refine sumN_congr fun o _ => ?_
  by_cases h : b o = true
  · rw [if_pos h, if_neg (show ¬ (!b o) = true by rw [h]; decide)]
  · have h2 : b o = false := by cases hb : b o; rfl; exact absurd hb h
    rw [if_neg h, if_pos (show (!b o) = true by rw [h2]; rfl)]
/-- What does not burn can give. -/
theorem Burn.rest {P : Nat} {w : Nat → Nat → Nat} {D : Nat → Int} {a : Nat} {b : Nat → Bool} (h : Burn P w D a b) (hb : ∀ k, k < P → b k = false → (inS P w b k : Int) ≤ D k) : Legal P w D a (fun j => !b j) :=
  ⟨by show (!b a) = false; rw [h.at0]; rfl, fun k hk hs => by
    have hs : b k = false := by simpa using hs
    rw [inS_not]; exact hb k hk hs⟩
/-- Somewhere it leads out of a set. -/
theorem out_pos {P : Nat} {w : Nat → Nat → Nat} (hG : Gr P w) {a : Nat} {S : Nat → Bool} (ha : a < P) (h0 : S a = false) {k : Nat} (hk : k < P) (hS : S k = true) : ∃ j, j < P ∧ S j = true ∧ 0 < outS P w S j := by
  refine Classical.byContradiction fun hn => ?_
  have h1 := hG.conn a ha (fun j => S j = false) h0 (fun x y hx hy hw hsx => by
    refine Classical.byContradiction fun hy2 => hn ⟨y, hy, by cases hs : S y; exact absurd hs hy2; rfl, ?_⟩
    have h2 := sumN_one (F := fun o => if S o = true then 0 else w y o) (a := x) (n := P) hx
    have h3 : (if S x = true then 0 else w y x) = w y x := if_neg (by rw [hsx]; decide)
    have h4 := hG.sym x y
    unfold outS
    omega) k hk
  rw [hS] at h1
  cases h1
/-- A set gives as often as it can. -/
structure Often (P : Nat) (w : Nat → Nat → Nat) (D : Nat → Int) (S : Nat → Bool) (t : Int) : Prop where
  le : ∀ k, k < P → S k = true → t * (outS P w S k : Int) ≤ D k
  pos : 1 ≤ t
theorem Run.fire {P : Nat} {w : Nat → Nat → Nat} {D E : Nat → Int} {a : Nat} {σ : Nat → Int} (h : Run P w D a σ) (hE : ∀ k, k < P → E k = D k - lap P w σ k) {S : Nat → Bool} (h0 : S a = false) {t : Int} (ht : Often P w E S t) {x : Nat} (hx : x < P) (hS : S x = true) :
    Run P w D a (fun j => σ j + if S j then t else 0) ∧ (∀ k, k < P → fireZ P w E S t k = D k - lap P w (fun j => σ j + if S j then t else 0) k) ∧ sumZ σ P + 1 ≤ sumZ (fun j => σ j + if S j then t else 0) P := by
  have htp := ht.pos
  have he : ∀ k, k < P → fireZ P w E S t k = D k - lap P w (fun j => σ j + if S j then t else 0) k := fun k hk => by
    rw [fire_lap, hE k hk, lap_add]; omega
  refine ⟨⟨?_, fun k hk => ?_, fun k hk hne => ?_⟩, he, ?_⟩
  · rw [h.at0, if_neg (by rw [h0]; decide)]; rfl
  · have := h.pos k hk
    split <;> omega
  · rw [← he k hk]
    unfold fireZ
    by_cases e : S k = true
    · rw [if_pos e]
      have := ht.le k hk e
      omega
    · rw [if_neg e]
      have h1 := h.left k hk hne
      rw [← hE k hk] at h1
      have := Int.mul_nonneg (show 0 ≤ t by omega) (Int.natCast_nonneg (inS P w S k))
      omega
  · rw [sumZ_add]
    have h1 := sumZ_one (F := fun j => if S j = true then t else 0) (a := x) (n := P) (fun j _ => by split <;> omega) hx
    have h2 : (if S x = true then t else 0) = t := if_pos hS
    omega
end Ch
end Go.Proofs.Ytjikildiblchpaa
