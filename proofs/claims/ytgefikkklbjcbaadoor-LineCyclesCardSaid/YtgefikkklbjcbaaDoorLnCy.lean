/- PLAIN: when a sequence comes again (by a map of what was seen; by a slow one and a fast one); what a map of words holds. -/
import Derived.Test.YtgefikkklbjcbaaDoorLnG
import Derived.Maps.OwnSet
import Derived.Maps.Views
import Derived.Maps.Keyed
namespace Go.Proofs.YtgefikkklbjcbaaDoor
set_option linter.unusedSimpArgs false
set_option linter.unusedVariables false
open Go.RowKit
namespace Ln
namespace Cy

/-- The first that comes again, and behind how many. -/
structure Good {α : Type} (x : Nat → α) (mu la : Nat) : Prop where
  la1 : 1 ≤ la
  rep : x mu = x (mu + la)
  apart : ∀ i j, i < j → j < mu + la → x i ≠ x j
def Det {α : Type} (x : Nat → α) : Prop := ∀ i j, x i = x j → x (i + 1) = x (j + 1)
theorem shift {α : Type} {x : Nat → α} (h : Det x) {i j : Nat} (e : x i = x j) : ∀ k, x (i + k) = x (j + k)
  | 0 => e
  | k + 1 => h _ _ (shift h e k)
theorem per {α : Type} {x : Nat → α} (h : Det x) {mu la : Nat} (g : Good x mu la) {i : Nat} (hi : mu ≤ i) : x (i + la) = x i := by
  have := shift h g.rep (i - mu)
  rw [show mu + (i - mu) = i from by omega, show mu + la + (i - mu) = i + la from by omega] at this
  exact this.symm
theorem perm {α : Type} {x : Nat → α} (h : Det x) {mu la : Nat} (g : Good x mu la) {i : Nat} (hi : mu ≤ i) : ∀ k, x (i + k * la) = x i
  | 0 => by rw [Nat.zero_mul, Nat.add_zero]
  | k + 1 => by
    rw [Nat.add_mul, Nat.one_mul, ← Nat.add_assoc, per h g (by omega)]
    exact perm h g hi k
theorem red {α : Type} {x : Nat → α} (h : Det x) {mu la : Nat} (g : Good x mu la) {i : Nat} (hi : mu ≤ i) : x i = x (mu + (i - mu) % la) := by
  have := perm h g (i := mu + (i - mu) % la) (by omega) ((i - mu) / la)
  rw [← this]
  congr 1
  have h2 := Nat.mod_add_div (i - mu) la
  rw [Nat.mul_comm] at h2
  omega
theorem eq_iff {α : Type} {x : Nat → α} (h : Det x) {mu la : Nat} (g : Good x mu la) {i j : Nat} (hij : i < j) : x i = x j ↔ mu ≤ i ∧ la ∣ j - i := by
  have hl := g.la1
  constructor
  · intro e
    have hj : mu + la ≤ j := by
      rcases Nat.lt_or_ge j (mu + la) with h1 | h1
      · exact absurd e (g.apart i j hij h1)
      · exact h1
    have hrj := red h g (show mu ≤ j by omega)
    have hmj := Nat.mod_lt (j - mu) hl
    by_cases hi : mu ≤ i
    · have hri := red h g hi
      have hmi := Nat.mod_lt (i - mu) hl
      have heq : (i - mu) % la = (j - mu) % la := by
        rcases Nat.lt_trichotomy ((i - mu) % la) ((j - mu) % la) with h1 | h1 | h1
        · exact absurd (hri.symm.trans (e.trans hrj)) (g.apart _ _ (by omega) (by omega))
        · exact h1
        · exact absurd (hrj.symm.trans (e.symm.trans hri)) (g.apart _ _ (by omega) (by omega))
      refine ⟨hi, ?_⟩
      have := Nat.sub_mod_eq_zero_of_mod_eq heq.symm
      rw [show j - mu - (i - mu) = j - i from by omega] at this
      exact Nat.dvd_of_mod_eq_zero this
    · exact absurd (e.trans hrj) (g.apart _ _ (by omega) (by omega))
  · rintro ⟨hi, k, hk⟩
    have := perm h g hi k
    rw [← this]
    congr 1
    rw [Nat.mul_comm] at hk
    omega
/-- The slow one and the fast one. -/
theorem tort {α : Type} {x : Nat → α} (h : Det x) {mu la : Nat} (g : Good x mu la) {n : Nat} (hn : 1 ≤ n) : x n = x (2 * n) ↔ mu ≤ n ∧ la ∣ n := by
  rw [eq_iff h g (by omega), show 2 * n - n = n from by omega]
theorem tort_ex {α : Type} {x : Nat → α} (h : Det x) {mu la : Nat} (g : Good x mu la) : ∃ m, 1 ≤ m ∧ m ≤ mu + la ∧ x m = x (2 * m) := by
  have hl := g.la1
  have h1 := Nat.div_add_mod mu la
  have h2 := Nat.mod_lt mu hl
  have h3 : la * (mu / la + 1) = la * (mu / la) + la := by rw [Nat.mul_add, Nat.mul_one]
  refine ⟨la * (mu / la + 1), by omega, by omega, ?_⟩
  rw [tort h g (by omega)]
  exact ⟨by omega, ⟨_, rfl⟩⟩
theorem ahead {α : Type} {x : Nat → α} (h : Det x) {mu la m : Nat} (g : Good x mu la) (hm : 1 ≤ m) (e : x m = x (2 * m)) (a : Nat) : x a = x (2 * m + a) ↔ mu ≤ a := by
  obtain ⟨h1, h2⟩ := (tort h g hm).1 e
  rw [eq_iff h g (by omega), show 2 * m + a - a = m + m from by omega]
  exact ⟨fun h => h.1, fun h => ⟨h, Nat.dvd_add h2 h2⟩⟩
theorem period {α : Type} {x : Nat → α} (h : Det x) {mu la : Nat} (g : Good x mu la) {p : Nat} (hp : 1 ≤ p) : x mu = x (mu + p) ↔ la ∣ p := by
  rw [eq_iff h g (by omega), show mu + p - mu = p from by omega]
  exact ⟨fun h => h.2, fun h => ⟨Nat.le_refl _, h⟩⟩
theorem good_of {α : Type} {x : Nat → α} : ∀ (N : Nat), ∀ i, i < N → x i = x N → ∃ mu la, Good x mu la ∧ mu + la ≤ N := by
  intro N
  induction N using Nat.strongRecOn with
  | ind N ih =>
    intro i hi e
    classical
    by_cases h : ∃ M k, M < N ∧ k < M ∧ x k = x M
    · obtain ⟨M, k, hM, hk, ek⟩ := h
      obtain ⟨mu, la, g, hle⟩ := ih M hM k hk ek
      exact ⟨mu, la, g, by omega⟩
    · refine ⟨i, N - i, ⟨by omega, by rw [show i + (N - i) = N from by omega]; exact e, fun a b hab hb hx => h ⟨b, a, by omega, hab, hx⟩⟩, by omega⟩
theorem good_one {α : Type} {x : Nat → α} {mu la mu' la' : Nat} (g : Good x mu la) (g' : Good x mu' la') : mu = mu' ∧ la = la' := by
  have h1 := g.la1
  have h2 := g'.la1
  have hs : mu + la = mu' + la' := by
    rcases Nat.lt_trichotomy (mu + la) (mu' + la') with h | h | h
    · exact absurd g.rep (g'.apart _ _ (by omega) h)
    · exact h
    · exact absurd g'.rep (g.apart _ _ (by omega) h)
  have hm : mu = mu' := by
    have e : x mu = x mu' := by rw [g.rep, hs, ← g'.rep]
    rcases Nat.lt_trichotomy mu mu' with h | h | h
    · exact absurd e (g.apart _ _ h (by omega))
    · exact h
    · exact absurd e.symm (g.apart _ _ h (by omega))
  exact ⟨hm, by omega⟩
/-- What a map of what was seen tells. -/
def ByMap {α : Type} (x : Nat → α) (most a p : Nat) (e : Int) : Prop := (Good x a p ∧ a + p ≤ most ∧ e = 0) ∨ ((∀ i j, i < j → j ≤ most → x i ≠ x j) ∧ a = 0 ∧ p = 0 ∧ e = 6)
/-- What a slow one and a fast one tell. -/
def ByTwo {α : Type} (x : Nat → α) (most a p : Nat) (ok : Bool) : Prop := (Good x a p ∧ ok = decide (a + p ≤ most)) ∨ ((∀ m, 1 ≤ m → m ≤ most → x m ≠ x (2 * m)) ∧ a = 0 ∧ p = 0 ∧ ok = false)
theorem both {α : Type} {x : Nat → α} (h : Det x) {most a p b q : Nat} {e : Int} {ok : Bool} (h1 : ByMap x most a p e) (h2 : ByTwo x most b q ok) :
    (ok = true ∧ e = 0 ∧ a = b ∧ p = q) ∨ (ok = false ∧ e = 6 ∧ a = 0 ∧ p = 0) := by
  rcases h1 with ⟨g, hle, he⟩ | ⟨hno, ha, hp, he⟩
  · rcases h2 with ⟨g', hok⟩ | ⟨hno, _, _, _⟩
    · obtain ⟨rfl, rfl⟩ := good_one g g'
      exact .inl ⟨by rw [hok]; exact decide_eq_true hle, he, rfl, rfl⟩
    · obtain ⟨m, hm1, hm2, hm⟩ := tort_ex h g
      exact absurd hm (hno m hm1 (by omega))
  · rcases h2 with ⟨g', hok⟩ | ⟨_, _, _, hok⟩
    · refine .inr ⟨?_, he, ha, hp⟩
      rw [hok]
      refine decide_eq_false fun hle => ?_
      have := g'.la1
      exact hno _ _ (by omega) hle g'.rep
    · exact .inr ⟨hok, he, ha, hp⟩
end Cy
/-- A word as letters. -/
def kyB (zs : List Int) : List UInt8 := zs.map fun z => UInt8.ofNat z.toNat
def kyL (zs : List Int) : Lit := .string (kyB zs)
theorem kyB_inj : ∀ {xs ys : List Int}, (∀ z ∈ xs, 0 ≤ z ∧ z < 256) → (∀ z ∈ ys, 0 ≤ z ∧ z < 256) → kyB xs = kyB ys → xs = ys
  | [], [], _, _, _ => rfl
  | [], _ :: _, _, _, h => by simp [kyB] at h
  | _ :: _, [], _, _, h => by simp [kyB] at h
  | x :: xs, y :: ys, hx, hy, h => by
    have h1 := hx x (List.mem_cons_self ..)
    have h2 := hy y (List.mem_cons_self ..)
    simp only [kyB, List.map_cons, List.cons.injEq] at h
    have h3 := congrArg UInt8.toNat h.1
    rw [UInt8.toNat_ofNat', UInt8.toNat_ofNat', Nat.mod_eq_of_lt (by omega), Nat.mod_eq_of_lt (by omega)] at h3
    rw [kyB_inj (fun z hz => hx z (List.mem_cons_of_mem _ hz)) (fun z hz => hy z (List.mem_cons_of_mem _ hz)) h.2, show x = y by omega]
theorem kyL_inj {xs ys : List Int} (hx : ∀ z ∈ xs, 0 ≤ z ∧ z < 256) (hy : ∀ z ∈ ys, 0 ≤ z ∧ z < 256) (h : kyL xs = kyL ys) : xs = ys := by
  unfold kyL at h
  simp only [Lit.string.injEq] at h
  exact kyB_inj hx hy h
/-- What the map reads as, behind n steps. -/
def seenD (x : Nat → List Int) : Nat → DataW Nat
  | 0 => .map []
  | n + 1 => (seenD x n).put (kyL (x n)) (.lit (.int .i64 n))
theorem seen_map (x : Nat → List Int) : ∀ n, Maps.IsMap (seenD x n)
  | 0 => Maps.isMap_empty
  | n + 1 => (seen_map x n).put _ _
theorem seen_has {x : Nat → List Int} (hx : ∀ n, ∀ z ∈ x n, 0 ≤ z ∧ z < 256) {y : List Int} (hy : ∀ z ∈ y, 0 ≤ z ∧ z < 256) : ∀ n, Maps.has (seenD x n) (kyL y) = true ↔ ∃ i, i < n ∧ x i = y
  | 0 => by
    refine ⟨fun h => (by cases h), ?_⟩
    rintro ⟨i, h, _⟩
    exact absurd h (Nat.not_lt_zero _)
  | n + 1 => by
    have ih := seen_has hx hy n
    unfold seenD
    by_cases e : x n = y
    · rw [e, Maps.has_put_same (seen_map x n) (show WideAt.IsKeyLit (kyL y) from trivial)]
      exact ⟨fun _ => ⟨n, by omega, e⟩, fun _ => rfl⟩
    · rw [Maps.has_put_other (fun h => e (kyL_inj (hx n) hy h.symm))]
      rw [ih]
      constructor
      · rintro ⟨i, hi, h⟩; exact ⟨i, by omega, h⟩
      · rintro ⟨i, hi, h⟩
        rcases Nat.lt_or_eq_of_le (Nat.le_of_lt_succ hi) with h1 | rfl
        · exact ⟨i, h1, h⟩
        · exact absurd h e
theorem seen_at {x : Nat → List Int} (hx : ∀ n, ∀ z ∈ x n, 0 ≤ z ∧ z < 256) (z : DataW Nat) : ∀ n, (∀ i j, i < j → j < n → x i ≠ x j) → ∀ i, i < n → (seenD x n).atKey (kyL (x i)) z = .lit (.int .i64 i)
  | 0, _, i, hi => absurd hi (Nat.not_lt_zero _)
  | n + 1, hd, i, hi => by
    unfold seenD
    rcases Nat.lt_or_eq_of_le (Nat.le_of_lt_succ hi) with h1 | rfl
    · rw [Maps.atKey_put_other (fun h => hd i n h1 (by omega) (kyL_inj (hx i) (hx n) h))]
      exact seen_at hx z n (fun a b hab hb => hd a b hab (by omega)) i h1
    · exact Maps.atKey_put_same (seen_map x i) (show WideAt.IsKeyLit (kyL (x i)) from trivial) _ z
end Ln
end Go.Proofs.YtgefikkklbjcbaaDoor
