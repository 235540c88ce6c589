/- Fractions on a number, plain: the first that gives a whole number goes; as far as the fuel lasts. -/
import Derived.WalkKit
namespace Go.Proofs.YtfhhnajnanlmgaaGreatDoor
set_option linter.unusedSimpArgs false
set_option linter.unusedVariables false
namespace Cp

def up (f : Nat → Nat → Int) (i : Nat) : Nat := (f i 0).toNat
def lw (f : Nat → Nat → Int) (i : Nat) : Nat := (f i 1).toNat
/-- All are above 0, as far as the machine's numbers reach. -/
def Good (f : Nat → Nat → Int) (m : Nat) : Prop := ∀ i, i < m → 1 ≤ f i 0 ∧ 1 ≤ f i 1 ∧ f i 0 ≤ 9223372036854775807 ∧ f i 1 ≤ 9223372036854775807
def goes (f : Nat → Nat → Int) (n i : Nat) : Prop := n * up f i % lw f i = 0
instance (f : Nat → Nat → Int) (n i : Nat) : Decidable (goes f n i) := by unfold goes; infer_instance
def First (f : Nat → Nat → Int) (m n i : Nat) : Prop := i < m ∧ goes f n i ∧ ∀ j, j < i → ¬ goes f n j
def NoneGoes (f : Nat → Nat → Int) (m n : Nat) : Prop := ∀ j, j < m → ¬ goes f n j
def quot (f : Nat → Nat → Int) (n i : Nat) : Nat := n * up f i / lw f i
def step (f : Nat → Nat → Int) (m n : Nat) : Option Nat := ((List.range m).find? fun i => decide (goes f n i)).map (quot f n)

theorem step_none {f : Nat → Nat → Int} {m n : Nat} (h : NoneGoes f m n) : step f m n = none := by
  unfold step
  rw [Option.map_eq_none_iff, List.find?_eq_none]
  intro i hi
  simpa using h i (List.mem_range.1 hi)
theorem find_first (p : Nat → Bool) : ∀ (m i : Nat), i < m → p i = true → (∀ j, j < i → p j = false) → (List.range m).find? p = some i
  | 0, i, h, _, _ => absurd h (Nat.not_lt_zero _)
  | m + 1, i, h, hp, hl => by
    rw [List.range_succ, List.find?_append]
    by_cases h1 : i < m
    · rw [find_first p m i h1 hp hl]; rfl
    · have e : i = m := by omega
      subst e
      have hn : (List.range i).find? p = none := by
        rw [List.find?_eq_none]
        intro j hj
        simpa using hl j (List.mem_range.1 hj)
      rw [hn]
      simp [hp]
theorem step_some {f : Nat → Nat → Int} {m n i : Nat} (h : First f m n i) : step f m n = some (quot f n i) := by
  unfold step
  rw [find_first _ m i h.1 (by simpa using h.2.1) (fun j hj => by simpa using h.2.2 j hj)]
  rfl

/-- What comes of a number, and how often; or 6: no fuel; 4: too great. -/
def plays (f : Nat → Nat → Int) (m : Nat) : Nat → Nat → Nat → Int × Int × Int
  | 0, n, k => match step f m n with | none => (n, k, 0) | some _ => (0, 0, 6)
  | d + 1, n, k => match step f m n with | none => (n, k, 0) | some q => if 4611686018427387904 < q then (0, 0, 4) else plays f m d q (k + 1)

theorem plays_none {f : Nat → Nat → Int} {m n : Nat} (h : NoneGoes f m n) (d k : Nat) : plays f m d n k = ((n : Int), (k : Int), 0) := by
  cases d <;> simp only [plays, step_none h]
theorem plays_fuel {f : Nat → Nat → Int} {m n i : Nat} (h : First f m n i) (k : Nat) : plays f m 0 n k = (0, 0, 6) := by
  simp only [plays, step_some h]
theorem plays_big {f : Nat → Nat → Int} {m n i : Nat} (h : First f m n i) (hq : 4611686018427387904 < quot f n i) (d k : Nat) (hd : 0 < d) : plays f m d n k = (0, 0, 4) := by
  obtain ⟨d, rfl⟩ : ∃ e, d = e + 1 := ⟨d - 1, by omega⟩
  simp only [plays, step_some h, if_pos hq]
theorem plays_go {f : Nat → Nat → Int} {m n i : Nat} (h : First f m n i) (hq : quot f n i ≤ 4611686018427387904) (d k : Nat) (hd : 0 < d) : plays f m d n k = plays f m (d - 1) (quot f n i) (k + 1) := by
  obtain ⟨d, rfl⟩ : ∃ e, d = e + 1 := ⟨d - 1, by omega⟩
  simp only [plays, step_some h, if_neg (Nat.not_lt.2 hq), Nat.add_sub_cancel]

theorem Good.up_pos {f : Nat → Nat → Int} {m i : Nat} (h : Good f m) (hi : i < m) : 0 < up f i := by have := h i hi; unfold up; omega
theorem Good.lw_pos {f : Nat → Nat → Int} {m i : Nat} (h : Good f m) (hi : i < m) : 0 < lw f i := by have := h i hi; unfold lw; omega
theorem Good.up_eq {f : Nat → Nat → Int} {m i : Nat} (h : Good f m) (hi : i < m) : f i 0 = (up f i : Int) := by have := h i hi; unfold up; omega
theorem Good.lw_eq {f : Nat → Nat → Int} {m i : Nat} (h : Good f m) (hi : i < m) : f i 1 = (lw f i : Int) := by have := h i hi; unfold lw; omega
theorem Good.up_le {f : Nat → Nat → Int} {m i : Nat} (h : Good f m) (hi : i < m) : up f i ≤ 9223372036854775807 := by have := h i hi; unfold up; omega
theorem Good.lw_le {f : Nat → Nat → Int} {m i : Nat} (h : Good f m) (hi : i < m) : lw f i ≤ 9223372036854775807 := by have := h i hi; unfold lw; omega

theorem quot_pos {f : Nat → Nat → Int} {m n i : Nat} (h : Good f m) (hf : First f m n i) (hn : 0 < n) : 0 < quot f n i := by
  have h1 := h.up_pos hf.1
  have h2 := h.lw_pos hf.1
  have h3 := hf.2.1
  unfold goes at h3
  unfold quot
  have h4 := Nat.div_add_mod (n * up f i) (lw f i)
  rw [h3, Nat.add_zero] at h4
  refine Nat.pos_of_ne_zero fun h5 => ?_
  rw [h5, Nat.mul_zero] at h4
  have := Nat.mul_pos hn h1
  omega

/-! ### by the common divisor -/
theorem gcd_step {a b : Nat} : Nat.gcd a b = Nat.gcd b (a % b) := by
  rw [Nat.gcd_comm a b, Nat.gcd_rec b a, Nat.gcd_comm]

theorem goes_gcd {u l n : Nat} (hl : 0 < l) : n * u % l = 0 ↔ n % (l / Nat.gcd u l) = 0 := by
  have hg : 0 < Nat.gcd u l := Nat.gcd_pos_of_pos_right _ hl
  obtain ⟨u', hu⟩ := Nat.gcd_dvd_left u l
  obtain ⟨l', hl'⟩ := Nat.gcd_dvd_right u l
  have hc : Nat.Coprime u' l' := by
    have := Nat.coprime_div_gcd_div_gcd hg
    rw [show u / Nat.gcd u l = u' from Nat.div_eq_of_eq_mul_right hg hu, show l / Nat.gcd u l = l' from Nat.div_eq_of_eq_mul_right hg hl'] at this
    exact this
  rw [show l / Nat.gcd u l = l' from Nat.div_eq_of_eq_mul_right hg hl']
  rw [← Nat.dvd_iff_mod_eq_zero, ← Nat.dvd_iff_mod_eq_zero]
  generalize Nat.gcd u l = g at *
  rw [hu, hl', Nat.mul_left_comm, Nat.mul_dvd_mul_iff_left hg]
  exact ⟨fun h => hc.symm.dvd_of_dvd_mul_right h, fun h => Nat.dvd_trans h (Nat.dvd_mul_right _ _)⟩

theorem quot_gcd {u l n : Nat} (hl : 0 < l) (h : n * u % l = 0) : n / (l / Nat.gcd u l) * (u / Nat.gcd u l) = n * u / l := by
  have h2 := (goes_gcd (u := u) (n := n) hl).1 h
  have hg : 0 < Nat.gcd u l := Nat.gcd_pos_of_pos_right _ hl
  obtain ⟨u', hu⟩ := Nat.gcd_dvd_left u l
  obtain ⟨l', hl'⟩ := Nat.gcd_dvd_right u l
  have eu : u / Nat.gcd u l = u' := Nat.div_eq_of_eq_mul_right hg hu
  have el : l / Nat.gcd u l = l' := Nat.div_eq_of_eq_mul_right hg hl'
  rw [eu]
  rw [el] at h2 ⊢
  generalize Nat.gcd u l = g at *
  have hl0 : 0 < l' := by
    refine Nat.pos_of_ne_zero fun h0 => ?_
    rw [h0, Nat.mul_zero] at hl'
    omega
  obtain ⟨c, hc⟩ := Nat.dvd_of_mod_eq_zero h2
  rw [hc, Nat.mul_div_cancel_left _ hl0, hl', hu]
  rw [show l' * c * (g * u') = (g * l') * (c * u') by simp only [Nat.mul_comm, Nat.mul_left_comm, Nat.mul_assoc]]
  rw [Nat.mul_div_cancel_left _ (Nat.mul_pos hg hl0)]

/-! ### by two words -/
theorem split (x : Nat) : x / 18446744073709551616 * 18446744073709551616 + x % 18446744073709551616 = x := Nat.div_add_mod' x _
theorem rest_mod (x l : Nat) : (x / 18446744073709551616 % l * 18446744073709551616 + x % 18446744073709551616) % l = x % l := by
  conv => rhs; rw [← split x]
  rw [Nat.add_mod, Nat.mul_mod, Nat.mod_mod, ← Nat.mul_mod, ← Nat.add_mod]
theorem big {x l : Nat} (hl : 0 < l) (h : l ≤ x / 18446744073709551616) : 4611686018427387904 < x / l := by
  have h1 : l * 18446744073709551616 ≤ x := Nat.le_trans (Nat.mul_le_mul_right _ h) (Nat.div_mul_le_self x 18446744073709551616)
  have h2 : 18446744073709551616 ≤ x / l := (Nat.le_div_iff_mul_le hl).2 (by rw [Nat.mul_comm]; exact h1)
  exact Nat.lt_of_lt_of_le (by decide) h2
theorem top_lt {u' m : Nat} (hu : 0 < u') : 4611686018427387904 / u' < m ↔ 4611686018427387904 < m * u' := Nat.div_lt_iff_lt_mul hu

end Cp
end Go.Proofs.YtfhhnajnanlmgaaGreatDoor
