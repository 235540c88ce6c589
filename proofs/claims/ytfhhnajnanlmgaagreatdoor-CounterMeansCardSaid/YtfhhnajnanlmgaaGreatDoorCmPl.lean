/- PLAIN: fractions count as the machine does; a machine's text is read as it. -/
import Derived.Test.YtfhhnajnanlmgaaGreatDoorCrE
import Derived.Test.YtfhhnajnanlmgaaGreatDoorCrR
import Derived.Test.YtfhhnajnanlmgaaGreatDoorCrQ
import Derived.Test.YtfhhnajnanlmgaaGreatDoorCpPl
import Derived.Test.YtfhhnajnanlmgaaGreatDoorRdS
namespace Go.Proofs.YtfhhnajnanlmgaaGreatDoor
set_option linter.unusedSimpArgs false
set_option linter.unusedVariables false
open Go.RowKit
namespace Cm
open Tld Mem Cr Cp Rd

/-! ### primes -/
def P (i : Nat) : Nat := PL.getD i 0
theorem P_two : ∀ i, i < 28 → 2 ≤ P i := by decide +kernel
theorem P_le : ∀ i, i < 28 → P i ≤ 107 := by decide +kernel
theorem P_cop : ∀ i, i < 28 → ∀ j, j < 28 → i ≠ j → Nat.gcd (P i) (P j) = 1 := by decide +kernel
theorem pz_P {m i : Nat} (hm : m ≤ 12) (hi : i < 4 + 2 * m) : pz m i = (P i : Int) := by
  have hl : PL.length = 28 := by decide
  unfold pz prim P
  rw [List.getD_eq_getElem?_getD, List.getElem?_map, List.getElem?_take_of_lt hi, List.getElem?_eq_getElem (by omega), List.getD_eq_getElem?_getD, List.getElem?_eq_getElem (by omega)]
  rfl
/-- What counters stand for. -/
def Mz (c : List Int) : Nat := P 0 ^ (c.getD 0 0).toNat * P 1 ^ (c.getD 1 0).toNat * P 2 ^ (c.getD 2 0).toNat * P 3 ^ (c.getD 3 0).toNat
theorem cop {i j : Nat} (hi : i < 28) (hj : j < 28) (h : i ≠ j) : Nat.Coprime (P i) (P j) := P_cop i hi j hj h
theorem cop_pow {i j n : Nat} (hi : i < 28) (hj : j < 28) (h : i ≠ j ∨ n = 0) : Nat.Coprime (P i) (P j ^ n) := by
  rcases h with h | rfl
  · exact Nat.Coprime.pow_right n (cop hi hj h)
  · rw [Nat.pow_zero]; exact Nat.coprime_one_right _
theorem cop_M {i : Nat} (hi : i < 28) {c : List Int} (h : ∀ j, j < 4 → i ≠ j ∨ (c.getD j 0).toNat = 0) : Nat.Coprime (P i) (Mz c) := by
  unfold Mz
  exact Nat.Coprime.mul_right (Nat.Coprime.mul_right (Nat.Coprime.mul_right (cop_pow hi (by omega) (h 0 (by omega))) (cop_pow hi (by omega) (h 1 (by omega)))) (cop_pow hi (by omega) (h 2 (by omega)))) (cop_pow hi (by omega) (h 3 (by omega)))
theorem cop_M4 {i : Nat} (hi : i < 28) (h4 : 4 ≤ i) (c : List Int) : Nat.Coprime (P i) (Mz c) := cop_M hi fun j hj => .inl (by omega)
theorem P_pos {i : Nat} (hi : i < 28) : 0 < P i := by have := P_two i hi; omega
theorem no_go {i n u l : Nat} (hi : i < 28) (h : Nat.Coprime (P i) (n * u)) (hl : P i ∣ l) : n * u % l ≠ 0 := fun e => by
  have h1 : P i ∣ n * u := Nat.dvd_trans hl (Nat.dvd_of_mod_eq_zero e)
  have h2 := Nat.Coprime.eq_one_of_dvd h h1
  have := P_two i hi
  omega

/-! ### lists of fractions -/
def stepL : List (Nat × Nat) → Nat → Option Nat
  | [], _ => none
  | p :: ps, n => if n * p.1 % p.2 = 0 then some (n * p.1 / p.2) else stepL ps n
theorem stepL_skip {n : Nat} {qs : List (Nat × Nat)} : ∀ (ps : List (Nat × Nat)), (∀ p ∈ ps, n * p.1 % p.2 ≠ 0) → stepL (ps ++ qs) n = stepL qs n
  | [], _ => rfl
  | p :: ps, h => by
    rw [List.cons_append]
    conv => lhs; unfold stepL
    rw [if_neg (h p List.mem_cons_self)]
    exact stepL_skip ps fun q hq => h q (List.mem_cons_of_mem _ hq)
theorem stepL_hit {n u l : Nat} {qs : List (Nat × Nat)} (h : n * u % l = 0) : stepL ((u, l) :: qs) n = some (n * u / l) := by
  unfold stepL
  exact if_pos h
theorem stepL_miss {n u l : Nat} {qs : List (Nat × Nat)} (h : n * u % l ≠ 0) : stepL ((u, l) :: qs) n = stepL qs n := by
  conv => lhs; unfold stepL
  exact if_neg h
theorem step_cons (f : Nat → Nat → Int) (M n : Nat) : Cp.step f (M + 1) n = if goes f n 0 then some (quot f n 0) else Cp.step (fun i => f (i + 1)) M n := by
  unfold Cp.step
  rw [List.range_succ_eq_map, List.find?_cons]
  by_cases h : goes f n 0
  · rw [if_pos h, decide_eq_true h]; rfl
  · rw [if_neg h, decide_eq_false h, List.find?_map]
    dsimp only
    have e : ((fun i => decide (goes f n i)) ∘ Nat.succ) = fun i => decide (goes (fun i => f (i + 1)) n i) := rfl
    rw [e, Option.map_map]
    rfl
def fl (ps : List (Nat × Nat)) : List Int := ps.flatMap fun p => [(p.1 : Int), (p.2 : Int)]
theorem fl_app (ps qs : List (Nat × Nat)) : fl (ps ++ qs) = fl ps ++ fl qs := List.flatMap_append
theorem fl_len : ∀ ps : List (Nat × Nat), (fl ps).length = 2 * ps.length
  | [] => rfl
  | p :: ps => by
    have := fl_len ps
    unfold fl at this ⊢
    rw [List.flatMap_cons, List.length_append, this]
    show 2 + _ = _
    rw [List.length_cons]; omega
theorem step_pairs (n : Nat) : ∀ ps : List (Nat × Nat), Cp.step (fz (fl ps)) ps.length n = stepL ps n
  | [] => rfl
  | p :: ps => by
    have e : fl (p :: ps) = (p.1 : Int) :: (p.2 : Int) :: fl ps := rfl
    have e0 : fz (fl (p :: ps)) 0 0 = (p.1 : Int) := rfl
    have e1 : fz (fl (p :: ps)) 0 1 = (p.2 : Int) := rfl
    have es : (fun i => fz (fl (p :: ps)) (i + 1)) = fz (fl ps) := by
      funext i j
      unfold fz
      rw [e, show 2 * (i + 1) + j = (2 * i + j) + 1 + 1 by omega]
      rfl
    rw [List.length_cons, step_cons, es, step_pairs n ps]
    conv => rhs; unfold stepL
    have hg : goes (fz (fl (p :: ps))) n 0 ↔ n * p.1 % p.2 = 0 := by
      unfold goes up lw
      rw [e0, e1, Int.toNat_natCast, Int.toNat_natCast]
    have hq : quot (fz (fl (p :: ps))) n 0 = n * p.1 / p.2 := by
      unfold quot up lw
      rw [e0, e1, Int.toNat_natCast, Int.toNat_natCast]
    by_cases h : n * p.1 % p.2 = 0
    · rw [if_pos h, if_pos (hg.2 h), hq]
    · rw [if_neg h, if_neg fun x => h (hg.1 x)]

/-- A line's fractions, as pairs. -/
def frP (f : Nat → Nat → Int) (k : Nat) : List (Nat × Nat) :=
  if f k 0 = 1 then [(P (f k 1).toNat * P (5 + 2 * (f k 2).toNat), P (4 + 2 * k))]
  else if f k 0 = 2 then [(P (5 + 2 * (f k 2).toNat), P (4 + 2 * k) * P (f k 1).toNat), (P (5 + 2 * (f k 3).toNat), P (4 + 2 * k))] else []
def tlP (k : Nat) : List (Nat × Nat) := [(P (4 + 2 * k), P (5 + 2 * k))]
def allP (f : Nat → Nat → Int) (m : Nat) : List (Nat × Nat) := (List.range m).flatMap (frP f) ++ (List.range m).flatMap tlP

theorem ok_rng {f : Nat → Nat → Int} {m k : Nat} (hok : CodeOk f m) (hk : k < m) : 0 ≤ f k 1 ∧ f k 1 ≤ 3 ∧ 0 ≤ f k 2 ∧ f k 2 < m ∧ 0 ≤ f k 3 ∧ f k 3 < m ∧ (f k 0 = 1 ∨ f k 0 = 2 ∨ f k 0 = 3) := by
  have h := hok.2.2 k hk
  unfold okAt okI at h
  omega
theorem fl_fr {f : Nat → Nat → Int} {m k : Nat} (hok : CodeOk f m) (hk : k < m) : fl (frP f k) = frL f m k := by
  obtain ⟨h1, h2, h3, h4, h5, h6, _⟩ := ok_rng hok hk
  have hm := hok.2.1
  unfold frP frL
  by_cases e1 : f k 0 = 1
  · rw [if_pos e1, if_pos e1, pz_P hm (by omega), pz_P hm (by omega), pz_P hm (by omega)]
    unfold fl
    simp
  · rw [if_neg e1, if_neg e1]
    by_cases e2 : f k 0 = 2
    · rw [if_pos e2, if_pos e2, pz_P hm (by omega), pz_P hm (by omega), pz_P hm (by omega), pz_P hm (by omega)]
      unfold fl
      simp
    · rw [if_neg e2, if_neg e2]; rfl
theorem fl_frs {f : Nat → Nat → Int} {m : Nat} (hok : CodeOk f m) : ∀ i, i ≤ m → fl ((List.range i).flatMap (frP f)) = frs f m i
  | 0, _ => rfl
  | i + 1, h => by
    rw [frs_next, List.range_succ, List.flatMap_append, fl_app, fl_frs hok i (by omega)]
    simp only [List.flatMap_cons, List.flatMap_nil, List.append_nil]
    rw [fl_fr hok (by omega)]
theorem fl_tls {m : Nat} (hm : m ≤ 12) : ∀ i, i ≤ m → fl ((List.range i).flatMap tlP) = tls m i
  | 0, _ => rfl
  | i + 1, h => by
    rw [tls_next, List.range_succ, List.flatMap_append, fl_app, fl_tls hm i (by omega)]
    simp only [List.flatMap_cons, List.flatMap_nil, List.append_nil]
    unfold tlL
    rw [pz_P hm (by omega), pz_P hm (by omega)]
    rfl
theorem fl_all {f : Nat → Nat → Int} {m : Nat} (hok : CodeOk f m) : fl (allP f m) = allF f m := by
  unfold allP allF
  rw [fl_app, fl_frs hok m (Nat.le_refl _), fl_tls hok.2.1 m (Nat.le_refl _)]
theorem allP_len {f : Nat → Nat → Int} {m : Nat} (hok : CodeOk f m) : (allP f m).length = num f m + m := by
  have h := congrArg List.length (fl_all hok)
  unfold allF at h
  rw [fl_len, List.length_append, frs_len, tls_len] at h
  omega
theorem step_all {f : Nat → Nat → Int} {m : Nat} (hok : CodeOk f m) (n : Nat) : Cp.step (fz (allF f m)) (num f m + m) n = stepL (allP f m) n := by
  rw [← fl_all hok, ← allP_len hok]
  exact step_pairs n _
theorem all_get {f : Nat → Nat → Int} {m i j : Nat} (hok : CodeOk f m) (hi : i < num f m + m) (hj : j < 2) : 1 ≤ fz (allF f m) i j ∧ fz (allF f m) i j ≤ 11449 := by
  rw [← allP_len hok] at hi
  rw [← fl_all hok]
  have hp : ∀ p ∈ allP f m, 1 ≤ p.1 ∧ p.1 ≤ 11449 ∧ 1 ≤ p.2 ∧ p.2 ≤ 11449 := fun p hp => by
    have hm := hok.2.1
    have two : ∀ x y, x < 28 → y < 28 → 1 ≤ P x * P y ∧ P x * P y ≤ 11449 := fun x y hx hy => by
      have h1 : P x * P y ≤ 107 * 107 := Nat.mul_le_mul (P_le x hx) (P_le y hy)
      have h2 := Nat.mul_pos (P_pos hx) (P_pos hy)
      omega
    have one : ∀ x, x < 28 → 1 ≤ P x ∧ P x ≤ 11449 := fun x hx => by
      have h1 := P_le x hx
      have h2 := P_pos hx
      omega
    unfold allP at hp
    rcases List.mem_append.1 hp with hp | hp
    · obtain ⟨k, hk, hp⟩ := List.mem_flatMap.1 hp
      have hk := List.mem_range.1 hk
      obtain ⟨h1, h2, h3, h4, h5, h6, _⟩ := ok_rng hok hk
      unfold frP at hp
      by_cases e1 : f k 0 = 1
      · rw [if_pos e1] at hp
        obtain rfl := List.mem_singleton.1 hp
        have q1 := two (f k 1).toNat (5 + 2 * (f k 2).toNat) (by omega) (by omega)
        have q2 := one (4 + 2 * k) (by omega)
        exact ⟨q1.1, q1.2, q2.1, q2.2⟩
      · rw [if_neg e1] at hp
        by_cases e2 : f k 0 = 2
        · rw [if_pos e2] at hp
          rcases List.mem_cons.1 hp with rfl | hp
          · have q1 := two (4 + 2 * k) (f k 1).toNat (by omega) (by omega)
            have q2 := one (5 + 2 * (f k 2).toNat) (by omega)
            exact ⟨q2.1, q2.2, q1.1, q1.2⟩
          · obtain rfl := List.mem_singleton.1 hp
            have q1 := one (5 + 2 * (f k 3).toNat) (by omega)
            have q2 := one (4 + 2 * k) (by omega)
            exact ⟨q1.1, q1.2, q2.1, q2.2⟩
        · rw [if_neg e2] at hp
          cases hp
    · obtain ⟨k, hk, hp⟩ := List.mem_flatMap.1 hp
      have hk := List.mem_range.1 hk
      obtain rfl := List.mem_singleton.1 hp
      have q1 := one (4 + 2 * k) (by omega)
      have q2 := one (5 + 2 * k) (by omega)
      exact ⟨q1.1, q1.2, q2.1, q2.2⟩
  have hget : ∀ (ps : List (Nat × Nat)) (i : Nat) (h : i < ps.length), fz (fl ps) i 0 = (ps[i].1 : Int) ∧ fz (fl ps) i 1 = (ps[i].2 : Int) := fun ps => by
    induction ps with
    | nil => intro i h; exact absurd h (Nat.not_lt_zero _)
    | cons p ps ih =>
      intro i h
      cases i with
      | zero => exact ⟨rfl, rfl⟩
      | succ i =>
        have hi : i < ps.length := by simpa using h
        obtain ⟨a, b⟩ := ih i hi
        have e : ∀ j, fz (fl (p :: ps)) (i + 1) j = fz (fl ps) i j := fun j => by
          unfold fz
          rw [show fl (p :: ps) = (p.1 : Int) :: (p.2 : Int) :: fl ps from rfl, show 2 * (i + 1) + j = (2 * i + j) + 1 + 1 by omega]
          rfl
        rw [e, e]
        exact ⟨a, b⟩
  obtain ⟨g0, g1⟩ := hget _ i hi
  have h := hp _ (List.getElem_mem hi)
  have hj2 : j = 0 ∨ j = 1 := by omega
  rcases hj2 with rfl | rfl
  · rw [g0]; omega
  · rw [g1]; omega

/-! ### which fraction goes -/
theorem split_at {α : Type} (g : Nat → List α) {k m : Nat} (h : k < m) : ∃ rest, (List.range m).flatMap g = (List.range k).flatMap g ++ (g k ++ rest) := by
  induction m with
  | zero => omega
  | succ m ih =>
    rw [List.range_succ, List.flatMap_append]
    by_cases e : k = m
    · subst e
      exact ⟨[], by simp⟩
    · obtain ⟨rest, hr⟩ := ih (by omega)
      exact ⟨rest ++ g m, by rw [hr]; simp⟩
theorem fr_no {f : Nat → Nat → Int} {m k s : Nat} {c : List Int} (hok : CodeOk f m) (hk : k < m) (hs : 4 ≤ s) (hs2 : s < 28) (hne : s ≠ 4 + 2 * k) : ∀ p ∈ frP f k, (Mz c * P s) * p.1 % p.2 ≠ 0 := fun p hp => by
  obtain ⟨h1, h2, h3, h4, h5, h6, _⟩ := ok_rng hok hk
  have hm := hok.2.1
  have hN : Nat.Coprime (P (4 + 2 * k)) (Mz c * P s) := Nat.Coprime.mul_right (cop_M4 (by omega) (by omega) c) (cop (by omega) hs2 (fun e => hne e.symm))
  unfold frP at hp
  by_cases e1 : f k 0 = 1
  · rw [if_pos e1] at hp
    obtain rfl := List.mem_singleton.1 hp
    exact no_go (i := 4 + 2 * k) (by omega) (Nat.Coprime.mul_right hN (Nat.Coprime.mul_right (cop (by omega) (by omega) (by omega)) (cop (by omega) (by omega) (by omega)))) (Nat.dvd_refl _)
  · rw [if_neg e1] at hp
    by_cases e2 : f k 0 = 2
    · rw [if_pos e2] at hp
      rcases List.mem_cons.1 hp with rfl | hp
      · exact no_go (i := 4 + 2 * k) (by omega) (Nat.Coprime.mul_right hN (cop (by omega) (by omega) (by omega))) (Nat.dvd_mul_right _ _)
      · obtain rfl := List.mem_singleton.1 hp
        exact no_go (i := 4 + 2 * k) (by omega) (Nat.Coprime.mul_right hN (cop (by omega) (by omega) (by omega))) (Nat.dvd_refl _)
    · rw [if_neg e2] at hp
      cases hp
theorem frs_no {f : Nat → Nat → Int} {m i s : Nat} {c : List Int} (hok : CodeOk f m) (hi : i ≤ m) (hs : 4 ≤ s) (hs2 : s < 28) (hne : ∀ k, k < i → s ≠ 4 + 2 * k) : ∀ p ∈ (List.range i).flatMap (frP f), (Mz c * P s) * p.1 % p.2 ≠ 0 := fun p hp => by
  obtain ⟨k, hk, hp⟩ := List.mem_flatMap.1 hp
  have hk := List.mem_range.1 hk
  exact fr_no hok (by omega) hs hs2 (hne k hk) p hp
theorem tls_no {m i s : Nat} {c : List Int} (hm : m ≤ 12) (hi : i ≤ m) (hs : 4 ≤ s) (hs2 : s < 28) (hne : ∀ k, k < i → s ≠ 5 + 2 * k) : ∀ p ∈ (List.range i).flatMap tlP, (Mz c * P s) * p.1 % p.2 ≠ 0 := fun p hp => by
  obtain ⟨k, hk, hp⟩ := List.mem_flatMap.1 hp
  have hk := List.mem_range.1 hk
  obtain rfl := List.mem_singleton.1 hp
  have hne := hne k hk
  exact no_go (i := 5 + 2 * k) (by omega) (Nat.Coprime.mul_right (Nat.Coprime.mul_right (cop_M4 (by omega) (by omega) c) (cop (by omega) hs2 (fun e => hne e.symm))) (cop (by omega) (by omega) (by omega))) (Nat.dvd_refl _)
theorem four {c : List Int} (hl : c.length = 4) : ∃ x y z u, c = [x, y, z, u] := by
  match c, hl with
  | [x, y, z, u], _ => exact ⟨x, y, z, u, rfl⟩
theorem Mz_next {c : List Int} (hl : c.length = 4) {a : Nat} (ha : a < 4) {v : Int} (hv : 0 ≤ v) (h : c.getD a 0 = v) : Mz (c.set a (v + 1)) = Mz c * P a := by
  obtain ⟨x, y, z, u, rfl⟩ := four hl
  have e : (v + 1).toNat = v.toNat + 1 := by omega
  match a, ha with
  | 0, _ =>
    obtain rfl : x = v := h
    show P 0 ^ (x + 1).toNat * P 1 ^ y.toNat * P 2 ^ z.toNat * P 3 ^ u.toNat = P 0 ^ x.toNat * P 1 ^ y.toNat * P 2 ^ z.toNat * P 3 ^ u.toNat * P 0
    rw [e, Nat.pow_succ]
    simp only [Nat.mul_assoc, Nat.mul_comm, Nat.mul_left_comm]
  | 1, _ =>
    obtain rfl : y = v := h
    show P 0 ^ x.toNat * P 1 ^ (y + 1).toNat * P 2 ^ z.toNat * P 3 ^ u.toNat = P 0 ^ x.toNat * P 1 ^ y.toNat * P 2 ^ z.toNat * P 3 ^ u.toNat * P 1
    rw [e, Nat.pow_succ]
    simp only [Nat.mul_assoc, Nat.mul_comm, Nat.mul_left_comm]
  | 2, _ =>
    obtain rfl : z = v := h
    show P 0 ^ x.toNat * P 1 ^ y.toNat * P 2 ^ (z + 1).toNat * P 3 ^ u.toNat = P 0 ^ x.toNat * P 1 ^ y.toNat * P 2 ^ z.toNat * P 3 ^ u.toNat * P 2
    rw [e, Nat.pow_succ]
    simp only [Nat.mul_assoc, Nat.mul_comm, Nat.mul_left_comm]
  | 3, _ =>
    obtain rfl : u = v := h
    show P 0 ^ x.toNat * P 1 ^ y.toNat * P 2 ^ z.toNat * P 3 ^ (u + 1).toNat = P 0 ^ x.toNat * P 1 ^ y.toNat * P 2 ^ z.toNat * P 3 ^ u.toNat * P 3
    rw [e, Nat.pow_succ]
    simp only [Nat.mul_assoc, Nat.mul_comm, Nat.mul_left_comm]
theorem Mz_prev {c : List Int} (hl : c.length = 4) {a : Nat} (ha : a < 4) {v : Int} (hv : 0 < v) (h : c.getD a 0 = v) : Mz c = Mz (c.set a (v - 1)) * P a := by
  have h2 : (c.set a (v - 1)).getD a 0 = v - 1 := by
    rw [List.getD_eq_getElem?_getD, List.getElem?_set_self (by omega)]
    rfl
  have h1 := Mz_next (c := c.set a (v - 1)) (by rw [List.length_set, hl]) ha (v := v - 1) (by omega) h2
  rw [← h1, List.set_set, show v - 1 + 1 = v by omega]
  congr 1
  apply List.ext_getElem?
  intro i
  rw [List.getElem?_set]
  split
  · rename_i e
    subst e
    rw [if_pos (by omega), ← h, List.getD_eq_getElem?_getD, List.getElem?_eq_getElem (by omega)]
    rfl
  · rfl
theorem Mz_pos (c : List Int) : 0 < Mz c := by
  unfold Mz
  exact Nat.mul_pos (Nat.mul_pos (Nat.mul_pos (Nat.pow_pos (P_pos (by omega))) (Nat.pow_pos (P_pos (by omega)))) (Nat.pow_pos (P_pos (by omega)))) (Nat.pow_pos (P_pos (by omega)))

theorem quo {N u l q : Nat} (hl : 0 < l) (h : N * u = q * l) : N * u % l = 0 ∧ N * u / l = q := by
  rw [h]
  exact ⟨Nat.mul_mod_left _ _, Nat.mul_div_cancel _ hl⟩
variable {f : Nat → Nat → Int} {m k : Nat} {c : List Int}
theorem step_inc (hok : CodeOk f m) (hk : k < m) (hl : c.length = 4) (h1 : f k 0 = 1) {v : Int} (hv : 0 ≤ v) (hc : c.getD (f k 1).toNat 0 = v) :
    stepL (allP f m) (Mz c * P (4 + 2 * k)) = some (Mz (c.set (f k 1).toNat (v + 1)) * P (5 + 2 * (f k 2).toNat)) := by
  obtain ⟨g1, g2, g3, g4, g5, g6, _⟩ := ok_rng hok hk
  have hm := hok.2.1
  obtain ⟨rest, hr⟩ := split_at (frP f) hk
  unfold allP
  rw [hr, List.append_assoc, stepL_skip _ (frs_no hok (by omega) (by omega) (by omega) (fun j hj => by omega))]
  have e : frP f k = [(P (f k 1).toNat * P (5 + 2 * (f k 2).toNat), P (4 + 2 * k))] := by unfold frP; rw [if_pos h1]
  have q := quo (N := Mz c * P (4 + 2 * k)) (u := P (f k 1).toNat * P (5 + 2 * (f k 2).toNat)) (l := P (4 + 2 * k)) (q := Mz c * P (f k 1).toNat * P (5 + 2 * (f k 2).toNat)) (P_pos (by omega)) (by simp only [Nat.mul_assoc, Nat.mul_comm, Nat.mul_left_comm])
  rw [e, List.append_assoc, List.singleton_append, stepL_hit q.1, q.2, Mz_next hl (by omega) hv hc]
theorem step_dec (hok : CodeOk f m) (hk : k < m) (hl : c.length = 4) (h2 : f k 0 = 2) {v : Int} (hv : 0 < v) (hc : c.getD (f k 1).toNat 0 = v) :
    stepL (allP f m) (Mz c * P (4 + 2 * k)) = some (Mz (c.set (f k 1).toNat (v - 1)) * P (5 + 2 * (f k 2).toNat)) := by
  obtain ⟨g1, g2, g3, g4, g5, g6, _⟩ := ok_rng hok hk
  have hm := hok.2.1
  obtain ⟨rest, hr⟩ := split_at (frP f) hk
  unfold allP
  rw [hr, List.append_assoc, stepL_skip _ (frs_no hok (by omega) (by omega) (by omega) (fun j hj => by omega))]
  have e : frP f k = [(P (5 + 2 * (f k 2).toNat), P (4 + 2 * k) * P (f k 1).toNat), (P (5 + 2 * (f k 3).toNat), P (4 + 2 * k))] := by unfold frP; rw [if_neg (by omega), if_pos h2]
  have hM := Mz_prev hl (a := (f k 1).toNat) (by omega) hv hc
  have q := quo (N := Mz c * P (4 + 2 * k)) (u := P (5 + 2 * (f k 2).toNat)) (l := P (4 + 2 * k) * P (f k 1).toNat) (q := Mz (c.set (f k 1).toNat (v - 1)) * P (5 + 2 * (f k 2).toNat)) (Nat.mul_pos (P_pos (by omega)) (P_pos (by omega))) (by rw [hM]; simp only [Nat.mul_assoc, Nat.mul_comm, Nat.mul_left_comm])
  rw [e, List.append_assoc, List.cons_append, stepL_hit q.1, q.2]
theorem step_els (hok : CodeOk f m) (hk : k < m) (hl : c.length = 4) (h2 : f k 0 = 2) (hc : (c.getD (f k 1).toNat 0).toNat = 0) :
    stepL (allP f m) (Mz c * P (4 + 2 * k)) = some (Mz c * P (5 + 2 * (f k 3).toNat)) := by
  obtain ⟨g1, g2, g3, g4, g5, g6, _⟩ := ok_rng hok hk
  have hm := hok.2.1
  obtain ⟨rest, hr⟩ := split_at (frP f) hk
  unfold allP
  rw [hr, List.append_assoc, stepL_skip _ (frs_no hok (by omega) (by omega) (by omega) (fun j hj => by omega))]
  have e : frP f k = [(P (5 + 2 * (f k 2).toNat), P (4 + 2 * k) * P (f k 1).toNat), (P (5 + 2 * (f k 3).toNat), P (4 + 2 * k))] := by unfold frP; rw [if_neg (by omega), if_pos h2]
  have hno : (Mz c * P (4 + 2 * k)) * P (5 + 2 * (f k 2).toNat) % (P (4 + 2 * k) * P (f k 1).toNat) ≠ 0 := by
    refine no_go (i := (f k 1).toNat) (by omega) (Nat.Coprime.mul_right (Nat.Coprime.mul_right (cop_M (by omega) fun j hj => ?_) (cop (by omega) (by omega) (by omega))) (cop (by omega) (by omega) (by omega))) (Nat.dvd_mul_left _ _)
    by_cases ej : (f k 1).toNat = j
    · subst ej; exact .inr hc
    · exact .inl ej
  have q := quo (N := Mz c * P (4 + 2 * k)) (u := P (5 + 2 * (f k 3).toNat)) (l := P (4 + 2 * k)) (q := Mz c * P (5 + 2 * (f k 3).toNat)) (P_pos (by omega)) (by simp only [Nat.mul_assoc, Nat.mul_comm, Nat.mul_left_comm])
  rw [e, List.append_assoc, List.cons_append, stepL_miss hno, List.cons_append, stepL_hit q.1, q.2]
theorem step_back (hok : CodeOk f m) (hk : k < m) : stepL (allP f m) (Mz c * P (5 + 2 * k)) = some (Mz c * P (4 + 2 * k)) := by
  have hm := hok.2.1
  obtain ⟨rest, hr⟩ := split_at tlP hk
  unfold allP
  rw [stepL_skip _ (frs_no hok (Nat.le_refl _) (by omega) (by omega) (fun j hj => by omega)), hr, stepL_skip _ (tls_no hm (by omega) (by omega) (by omega) (fun j hj => by omega))]
  have q := quo (N := Mz c * P (5 + 2 * k)) (u := P (4 + 2 * k)) (l := P (5 + 2 * k)) (q := Mz c * P (4 + 2 * k)) (P_pos (by omega)) (by simp only [Nat.mul_assoc, Nat.mul_comm, Nat.mul_left_comm])
  unfold tlP
  rw [List.singleton_append, stepL_hit q.1, q.2]
theorem step_halt (hok : CodeOk f m) (hk : k < m) (h3 : f k 0 = 3) : stepL (allP f m) (Mz c * P (4 + 2 * k)) = none := by
  have hm := hok.2.1
  have h1 : ∀ p ∈ (List.range m).flatMap (frP f), (Mz c * P (4 + 2 * k)) * p.1 % p.2 ≠ 0 := fun p hp => by
    obtain ⟨j, hj, hp⟩ := List.mem_flatMap.1 hp
    have hj := List.mem_range.1 hj
    by_cases e : j = k
    · subst e
      unfold frP at hp
      rw [if_neg (by omega), if_neg (by omega)] at hp
      cases hp
    · exact fr_no hok hj (by omega) (by omega) (by omega) p hp
  have h2 : ∀ p ∈ (List.range m).flatMap tlP, (Mz c * P (4 + 2 * k)) * p.1 % p.2 ≠ 0 := tls_no hm (Nat.le_refl _) (by omega) (by omega) (fun j hj => by omega)
  unfold allP
  rw [stepL_skip _ h1, ← List.append_nil (List.flatMap _ _), stepL_skip _ h2]
  rfl

/-! ### the play -/
theorem plays_two {N q1 q2 j k0 : Nat} {F : Nat → Nat → Int} {L : Nat} (h1 : Cp.step F L N = some q1) (h2 : Cp.step F L q1 = some q2) : plays F L (2 * (j + 1)) N k0 = (0, 0, 4) ∨ (q2 ≤ 4611686018427387904 ∧ plays F L (2 * (j + 1)) N k0 = plays F L (2 * j) q2 (k0 + 2)) := by
  rw [show 2 * (j + 1) = (2 * j + 1) + 1 by omega]
  by_cases b1 : 4611686018427387904 < q1
  · left
    simp only [plays, h1, if_pos b1]
  · by_cases b2 : 4611686018427387904 < q2
    · left
      simp only [plays, h1, if_neg b1, h2, if_pos b2]
    · right
      refine ⟨Nat.le_of_not_lt b2, ?_⟩
      simp only [plays, h1, if_neg b1, h2, if_neg b2]
theorem means (hok : CodeOk f m) {a : List Int} {n at2 : Nat} : ∀ (d : Nat) (c : List Int) (k n0 : Nat), c.length = 4 → InR c → k < m → runM f d c k n0 = (a, n, at2, 0) → Mz c * P (4 + 2 * k) ≤ 4611686018427387904 →
    ∃ j, n = n0 + j ∧ a.length = 4 ∧ InR a ∧ at2 < m ∧ ∀ k0, plays (fz (allF f m)) (num f m + m) (2 * j) (Mz c * P (4 + 2 * k)) k0 = (0, 0, 4) ∨ (Mz a * P (4 + 2 * at2) ≤ 4611686018427387904 ∧ plays (fz (allF f m)) (num f m + m) (2 * j) (Mz c * P (4 + 2 * k)) k0 = (((Mz a * P (4 + 2 * at2) : Nat) : Int), ((k0 + 2 * j : Nat) : Int), 0)) := by
  intro d
  have base : ∀ (d : Nat) (c : List Int) (k n0 : Nat), c.length = 4 → InR c → k < m → f k 0 = 3 → runM f d c k n0 = (a, n, at2, 0) → Mz c * P (4 + 2 * k) ≤ 4611686018427387904 →
      ∃ j, n = n0 + j ∧ a.length = 4 ∧ InR a ∧ at2 < m ∧ ∀ k0, plays (fz (allF f m)) (num f m + m) (2 * j) (Mz c * P (4 + 2 * k)) k0 = (0, 0, 4) ∨ (Mz a * P (4 + 2 * at2) ≤ 4611686018427387904 ∧ plays (fz (allF f m)) (num f m + m) (2 * j) (Mz c * P (4 + 2 * k)) k0 = (((Mz a * P (4 + 2 * at2) : Nat) : Int), ((k0 + 2 * j : Nat) : Int), 0)) := by
    intro d c k n0 hl hR hk h3 hr hb
    rw [runM_halt h3] at hr
    simp only [Prod.mk.injEq] at hr
    obtain ⟨rfl, rfl, rfl, _⟩ := hr
    refine ⟨0, rfl, hl, hR, hk, fun k0 => .inr ⟨hb, ?_⟩⟩
    have hs : Cp.step (fz (allF f m)) (num f m + m) (Mz c * P (4 + 2 * k)) = none := by rw [step_all hok]; exact step_halt hok hk h3
    show plays _ _ 0 _ _ = _
    simp only [plays, hs]
    rfl
  induction d with
  | zero =>
    intro c k n0 hl hR hk hr hb
    by_cases h3 : f k 0 = 3
    · exact base 0 c k n0 hl hR hk h3 hr hb
    · rw [runM_fuel h3] at hr
      simp only [Prod.mk.injEq] at hr
      exact absurd hr.2.2.2 (by decide)
  | succ d ih =>
    intro c k n0 hl hR hk hr hb
    obtain ⟨g1, g2, g3, g4, g5, g6, gop⟩ := ok_rng hok hk
    by_cases h3 : f k 0 = 3
    · exact base (d + 1) c k n0 hl hR hk h3 hr hb
    have hcr := hR (f k 1).toNat (by omega)
    have go : ∀ (c' : List Int) (k' : Nat), c'.length = 4 → InR c' → k' < m → runM f d c' k' (n0 + 1) = (a, n, at2, 0) → stepL (allP f m) (Mz c * P (4 + 2 * k)) = some (Mz c' * P (5 + 2 * k')) →
        ∃ j, n = n0 + j ∧ a.length = 4 ∧ InR a ∧ at2 < m ∧ ∀ k0, plays (fz (allF f m)) (num f m + m) (2 * j) (Mz c * P (4 + 2 * k)) k0 = (0, 0, 4) ∨ (Mz a * P (4 + 2 * at2) ≤ 4611686018427387904 ∧ plays (fz (allF f m)) (num f m + m) (2 * j) (Mz c * P (4 + 2 * k)) k0 = (((Mz a * P (4 + 2 * at2) : Nat) : Int), ((k0 + 2 * j : Nat) : Int), 0)) := by
      intro c' k' hl' hR' hk' hr' hs
      have s1 : Cp.step (fz (allF f m)) (num f m + m) (Mz c * P (4 + 2 * k)) = some (Mz c' * P (5 + 2 * k')) := by rw [step_all hok]; exact hs
      have s2 : Cp.step (fz (allF f m)) (num f m + m) (Mz c' * P (5 + 2 * k')) = some (Mz c' * P (4 + 2 * k')) := by rw [step_all hok]; exact step_back hok hk'
      by_cases hb' : Mz c' * P (4 + 2 * k') ≤ 4611686018427387904
      · obtain ⟨j, hj, ha1, ha2, ha3, hp⟩ := ih c' k' (n0 + 1) hl' hR' hk' hr' hb'
        refine ⟨j + 1, by omega, ha1, ha2, ha3, fun k0 => ?_⟩
        rcases plays_two (j := j) (k0 := k0) s1 s2 with h | ⟨_, h⟩
        · exact .inl h
        · rw [h, show k0 + 2 * (j + 1) = k0 + 2 + 2 * j by omega]
          exact hp (k0 + 2)
      · -- the number is too great at once
        have hend : ∀ (d : Nat) (c : List Int) (k n0 : Nat), c.length = 4 → InR c → k < m → runM f d c k n0 = (a, n, at2, 0) → ∃ j, n = n0 + j ∧ a.length = 4 ∧ InR a ∧ at2 < m := by
          intro d
          induction d with
          | zero =>
            intro c k n0 hl hR hk hr
            by_cases h3 : f k 0 = 3
            · rw [runM_halt h3] at hr
              simp only [Prod.mk.injEq] at hr
              obtain ⟨rfl, rfl, rfl, _⟩ := hr
              exact ⟨0, rfl, hl, hR, hk⟩
            · rw [runM_fuel h3] at hr
              simp only [Prod.mk.injEq] at hr
              exact absurd hr.2.2.2 (by decide)
          | succ d ih =>
            intro c k n0 hl hR hk hr
            obtain ⟨g1, g2, g3, g4, g5, g6, gop⟩ := ok_rng hok hk
            have hcr := hR (f k 1).toNat (by omega)
            by_cases h3 : f k 0 = 3
            · rw [runM_halt h3] at hr
              simp only [Prod.mk.injEq] at hr
              obtain ⟨rfl, rfl, rfl, _⟩ := hr
              exact ⟨0, rfl, hl, hR, hk⟩
            by_cases h1 : f k 0 = 1
            · by_cases hf : c.getD (f k 1).toNat 0 = 1000000
              · rw [runM_full h1 hf (Nat.succ_pos d)] at hr
                simp only [Prod.mk.injEq] at hr
                exact absurd hr.2.2.2 (by decide)
              · rw [runM_inc h1 hf (Nat.succ_pos d), Nat.succ_sub_one] at hr
                obtain ⟨j, hj, r⟩ := ih _ _ _ (by rw [List.length_set, hl]) (hR.set hl (by omega)) (by omega) hr
                exact ⟨j + 1, by omega, r⟩
            · have h2 : f k 0 = 2 := by omega
              by_cases hp : 0 < c.getD (f k 1).toNat 0
              · rw [runM_dec h2 hp (Nat.succ_pos d), Nat.succ_sub_one] at hr
                obtain ⟨j, hj, r⟩ := ih _ _ _ (by rw [List.length_set, hl]) (hR.set hl (by omega)) (by omega) hr
                exact ⟨j + 1, by omega, r⟩
              · rw [runM_else h2 hp (Nat.succ_pos d), Nat.succ_sub_one] at hr
                obtain ⟨j, hj, r⟩ := ih _ _ _ hl hR (by omega) hr
                exact ⟨j + 1, by omega, r⟩
        obtain ⟨j, hj, r1, r2, r3⟩ := hend d c' k' (n0 + 1) hl' hR' hk' hr'
        refine ⟨j + 1, by omega, r1, r2, r3, fun k0 => .inl ?_⟩
        rcases plays_two (j := j) (k0 := k0) s1 s2 with h | ⟨h, _⟩
        · exact h
        · exact absurd h hb'
    by_cases h1 : f k 0 = 1
    · by_cases hf : c.getD (f k 1).toNat 0 = 1000000
      · rw [runM_full h1 hf (Nat.succ_pos d)] at hr
        simp only [Prod.mk.injEq] at hr
        exact absurd hr.2.2.2 (by decide)
      · rw [runM_inc h1 hf (Nat.succ_pos d), Nat.succ_sub_one] at hr
        exact go _ _ (by rw [List.length_set, hl]) (hR.set hl (by omega)) (by omega) hr (step_inc hok hk hl h1 hcr.1 rfl)
    · have h2 : f k 0 = 2 := by omega
      by_cases hp : 0 < c.getD (f k 1).toNat 0
      · rw [runM_dec h2 hp (Nat.succ_pos d), Nat.succ_sub_one] at hr
        exact go _ _ (by rw [List.length_set, hl]) (hR.set hl (by omega)) (by omega) hr (step_dec hok hk hl h2 hp rfl)
      · rw [runM_else h2 hp (Nat.succ_pos d), Nat.succ_sub_one] at hr
        exact go _ _ hl hR (by omega) hr (step_els hok hk hl h2 (by omega))

/-! ### written and read -/
def lineG (l : List UInt8) : Option In := match segc 32 l with
  | [] => none
  | f :: fs => lineF f fs
theorem lineR_G (l : List UInt8) : lineR l = lineG l := by
  unfold lineG
  cases h : segc 32 l with
  | nil => exact absurd h (segc_ne 32 l)
  | cons f fs => exact lineR_F h
/-- A line without its end. -/
def body (f : Nat → Nat → Int) (i : Nat) : List UInt8 :=
  if f i 0 = 1 then [105, 110, 99, 32] ++ dig1 (f i 1).toNat ++ [32] ++ dig1 (f i 2).toNat
  else if f i 0 = 2 then [100, 101, 99, 32] ++ dig1 (f i 1).toNat ++ [32] ++ dig1 (f i 2).toNat ++ [32] ++ dig1 (f i 3).toNat
  else [104, 97, 108, 116]
theorem line_body (f : Nat → Nat → Int) (i : Nat) : lineT f i = body f i ++ [10] := by
  unfold lineT body
  split
  · rfl
  · split <;> rfl
theorem fin1 : ∀ a, a < 4 → ∀ t, t < 12 → lineG ([105, 110, 99, 32] ++ dig1 a ++ [32] ++ dig1 t) = some ⟨1, (a : Nat), (t : Nat), 0⟩ ∧ (10 : UInt8) ∉ ([105, 110, 99, 32] ++ dig1 a ++ [32] ++ dig1 t) := by decide +kernel
theorem fin2 : ∀ a, a < 4 → ∀ t, t < 12 → ∀ e, e < 12 → lineG ([100, 101, 99, 32] ++ dig1 a ++ [32] ++ dig1 t ++ [32] ++ dig1 e) = some ⟨2, (a : Nat), (t : Nat), (e : Nat)⟩ ∧ (10 : UInt8) ∉ ([100, 101, 99, 32] ++ dig1 a ++ [32] ++ dig1 t ++ [32] ++ dig1 e) := by decide +kernel
theorem fin3 : lineG [104, 97, 108, 116] = some ⟨3, 0, 0, 0⟩ ∧ (10 : UInt8) ∉ ([104, 97, 108, 116] : List UInt8) := by decide +kernel
def inOf (f : Nat → Nat → Int) (i : Nat) : In := ⟨f i 0, f i 1, f i 2, f i 3⟩
theorem body_read (hok : CodeOk f m) (hk : k < m) : lineR (body f k) = some (inOf f k) ∧ ∀ b ∈ body f k, b ≠ 10 := by
  have hm := hok.2.1
  have h := hok.2.2 k hk
  rw [lineR_G]
  unfold okAt okI at h
  unfold body inOf
  rcases h with ⟨h0, h1, h2, h3, h4, h5⟩ | ⟨h0, h1, h2, h3, h4, h5, h6⟩ | ⟨h0, h1, h2, h3⟩
  · rw [if_pos h0, h0, h5]
    obtain ⟨q1, q2⟩ := fin1 (f k 1).toNat (by omega) (f k 2).toNat (by omega)
    rw [q1, Int.toNat_of_nonneg h1, Int.toNat_of_nonneg h3]
    exact ⟨rfl, fun b hb e => q2 (e ▸ hb)⟩
  · rw [if_neg (by omega), if_pos h0, h0]
    obtain ⟨q1, q2⟩ := fin2 (f k 1).toNat (by omega) (f k 2).toNat (by omega) (f k 3).toNat (by omega)
    rw [q1, Int.toNat_of_nonneg h1, Int.toNat_of_nonneg h3, Int.toNat_of_nonneg h5]
    exact ⟨rfl, fun b hb e => q2 (e ▸ hb)⟩
  · rw [if_neg (by omega), if_neg (by omega), h0, h1, h2, h3]
    exact ⟨fin3.1, fun b hb e => fin3.2 (e ▸ hb)⟩
theorem segc_text (hok : CodeOk f m) : ∀ L : List Nat, (∀ i ∈ L, i < m) → segc 10 (L.flatMap (lineT f)) = L.map (body f) ++ [[]]
  | [], _ => by unfold segc; rfl
  | i :: L, h => by
    have h1 := (body_read hok (h i List.mem_cons_self)).2
    rw [List.flatMap_cons, line_body, List.append_assoc, List.singleton_append, segc_app h1, segc_text hok L fun j hj => h j (List.mem_cons_of_mem _ hj)]
    rfl
theorem parse_lines (hok : CodeOk f m) : ∀ (L : List Nat) (acc : List In), (∀ i ∈ L, i < m) → parseF (L.map (body f) ++ [[]]) acc = (acc.length + L.length, some (acc ++ L.map (inOf f)))
  | [], acc, _ => by
    show parseF [[]] acc = _
    rw [parseF_last, if_pos rfl]
    simp
  | i :: L, acc, h => by
    have h1 := (body_read hok (h i List.mem_cons_self)).1
    rw [List.map_cons, List.cons_append, parseF_next (by simp) h1, parse_lines hok L _ fun j hj => h j (List.mem_cons_of_mem _ hj)]
    simp
    omega
/-- A machine's text is read as it. -/
theorem read_text (hok : CodeOk f m) : parseF (segc 10 (textT f m)) [] = (m, some ((List.range m).map (inOf f))) := by
  unfold textT
  rw [segc_text hok _ fun i hi => List.mem_range.1 hi, parse_lines hok _ _ fun i hi => List.mem_range.1 hi]
  simp
theorem ins_get {i j : Nat} (hi : i < m) (hj : j < 4) : insF ((List.range m).map (inOf f)) i j = f i j := by
  have e : ((List.range m).map (inOf f)).getD i ⟨0, 0, 0, 0⟩ = inOf f i := by
    rw [List.getD_eq_getElem?_getD, List.getElem?_map, List.getElem?_range hi]
    rfl
  unfold insF
  rw [e]
  match j, hj with
  | 0, _ => rfl
  | 1, _ => rfl
  | 2, _ => rfl
  | 3, _ => rfl
end Cm
end Go.Proofs.YtfhhnajnanlmgaaGreatDoor
