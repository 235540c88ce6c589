/- PARENTS, plain: the least number, digit by digit; two ways to look for the first pattern that makes another one in its middle. -/
import Derived.Test.YthipeeagpllfeaaDoorPnG
namespace Go.Proofs.YthipeeagpllfeaaDoor
set_option linter.unusedSimpArgs false
set_option linter.unusedVariables false
open Go.RowKit
namespace Pn
open Bl

/-- The least number below n of which P holds, or that there is none. -/
def Least (P : Nat → Prop) (n : Nat) : Option Nat → Prop
  | none => ∀ s, s < n → ¬ P s
  | some s => s < n ∧ P s ∧ ∀ s', s' < s → ¬ P s'
theorem Least.one {P : Nat → Prop} {n : Nat} {o o' : Option Nat} (h : Least P n o) (h' : Least P n o') : o = o' := by
  cases o with
  | none => cases o' with
    | none => rfl
    | some s => exact absurd h'.2.1 (h s h'.1)
  | some s => cases o' with
    | none => exact absurd h.2.1 (h' s h.1)
    | some s' =>
      rcases Nat.lt_trichotomy s s' with hlt | rfl | hlt
      · exact absurd h.2.1 (h'.2.2 s hlt)
      · rfl
      · exact absurd h'.2.1 (h.2.2 s' hlt)
theorem Least.congr {P P' : Nat → Prop} {n : Nat} {o : Option Nat} (h : Least P n o) (e : ∀ s, s < n → (P s ↔ P' s)) : Least P' n o := by
  cases o with
  | none => exact fun s hs hp => h s hs ((e s hs).2 hp)
  | some s => exact ⟨h.1, (e s h.1).1 h.2.1, fun s' hs hp => h.2.2 s' hs ((e s' (Nat.lt_trans hs h.1)).2 hp)⟩
theorem Least.zero {P : Nat → Prop} (h : P 0) : Least P 1 (some 0) := ⟨by decide, h, fun s hs => absurd hs (Nat.not_lt_zero _)⟩
theorem dm {c m s : Nat} (hs : s < m) : (c * m + s) / m = c ∧ (c * m + s) % m = s := by
  have hm : 0 < m := by omega
  constructor
  · rw [Nat.mul_comm, Nat.mul_add_div hm, Nat.div_eq_of_lt hs, Nat.add_zero]
  · rw [Nat.mul_comm, Nat.mul_add_mod, Nat.mod_eq_of_lt hs]
theorem dm_of {q m s : Nat} (h : s < q * m) : s / m < q ∧ s % m < m ∧ s = s / m * m + s % m := by
  have hm : 0 < m := by
    rcases Nat.eq_zero_or_pos m with e | e
    · rw [e, Nat.mul_zero] at h; omega
    · exact e
  exact ⟨Nat.div_lt_of_lt_mul (by rw [Nat.mul_comm]; exact h), Nat.mod_lt _ hm, (Nat.div_add_mod' s m).symm⟩
/-- One digit after the other. -/
theorem Least.digit {P : Nat → Prop} {Pc : Nat → Nat → Prop} {q m c s : Nat} (e : ∀ c s, s < m → (P (c * m + s) ↔ Pc c s)) (hc : c < q) (hno : ∀ c', c' < c → Least (Pc c') m none) (h : Least (Pc c) m (some s)) : Least P (q * m) (some (c * m + s)) := by
  have h1 : (c + 1) * m ≤ q * m := Nat.mul_le_mul_right m hc
  have h2 : (c + 1) * m = c * m + m := by rw [Nat.add_mul, Nat.one_mul]
  have h3 := h.1
  refine ⟨by omega, (e c s h.1).2 h.2.1, fun s' hs hp => ?_⟩
  have h4 : s' < q * m := by omega
  obtain ⟨k1, k2, k3⟩ := dm_of h4
  rw [k3] at hp
  have hp2 := (e _ _ k2).1 hp
  rcases Nat.lt_trichotomy (s' / m) c with hlt | heq | hlt
  · exact hno _ hlt _ k2 hp2
  · rw [heq] at hp2
    refine h.2.2 _ ?_ hp2
    rw [heq] at k3
    omega
  · have h5 : (c + 1) * m ≤ s' / m * m := Nat.mul_le_mul_right m hlt
    omega
theorem Least.nodigit {P : Nat → Prop} {Pc : Nat → Nat → Prop} {q m : Nat} (e : ∀ c s, s < m → (P (c * m + s) ↔ Pc c s)) (hno : ∀ c', c' < q → Least (Pc c') m none) : Least P (q * m) none := fun s hs hp => by
  obtain ⟨k1, k2, k3⟩ := dm_of hs
  rw [k3] at hp
  exact hno _ k1 _ k2 ((e _ _ k2).1 hp)
/-- ROW BY ROW: the rows behind two rows a, b are right, from row i on; k rows are left, as digits of s. -/
def RowE (mk : Nat → Nat → Nat → Nat → Prop) (Q : Nat) : (k i a b s : Nat) → Prop
  | 0, _, _, _, _ => True
  | k + 1, i, a, b, s => mk i a b (s / Q ^ k) ∧ RowE mk Q k (i + 1) b (s / Q ^ k) (s % Q ^ k)
def RowF (mk : Nat → Nat → Nat → Nat → Prop) (Q k i a b : Nat) (o : Option Nat) : Prop := Least (RowE mk Q k i a b) (Q ^ k) o
theorem rowE_digit {mk : Nat → Nat → Nat → Nat → Prop} {Q k i a b : Nat} (c s : Nat) (hs : s < Q ^ k) : RowE mk Q (k + 1) i a b (c * Q ^ k + s) ↔ (mk i a b c ∧ RowE mk Q k (i + 1) b c s) := by
  show (mk i a b ((c * Q ^ k + s) / Q ^ k) ∧ RowE mk Q k (i + 1) b ((c * Q ^ k + s) / Q ^ k) ((c * Q ^ k + s) % Q ^ k)) ↔ _
  rw [(dm hs).1, (dm hs).2]
theorem rowF_end {mk : Nat → Nat → Nat → Nat → Prop} {Q i a b : Nat} : RowF mk Q 0 i a b (some 0) := Least.zero trivial
theorem rowF_none {mk : Nat → Nat → Nat → Nat → Prop} {Q k i a b : Nat} (h : ∀ c, c < Q → mk i a b c → RowF mk Q k (i + 1) b c none) : RowF mk Q (k + 1) i a b none := by
  unfold RowF
  rw [Nat.pow_succ, Nat.mul_comm]
  refine Least.nodigit rowE_digit fun c hc s hs hp => ?_
  exact h c hc hp.1 s hs hp.2
theorem rowF_some {mk : Nat → Nat → Nat → Nat → Prop} {Q k i a b c s : Nat} (hc : c < Q) (h : ∀ c', c' < c → mk i a b c' → RowF mk Q k (i + 1) b c' none) (hm : mk i a b c) (hs : RowF mk Q k (i + 1) b c (some s)) : RowF mk Q (k + 1) i a b (some (c * Q ^ k + s)) := by
  unfold RowF
  rw [Nat.pow_succ, Nat.mul_comm (Q ^ k) Q]
  refine Least.digit rowE_digit hc (fun c' hc' s' hs' hp => h c' hc' hp.1 s' hs' hp.2) ⟨hs.1, ⟨hm, hs.2.1⟩, fun s' hs' hp => hs.2.2 s' hs' hp.2⟩
/-- Row y of a number of h rows. -/
def rowN (Q h N y : Nat) : Nat := N / Q ^ (h - 1 - y) % Q
theorem rowE_all {mk : Nat → Nat → Nat → Nat → Prop} {Q h N : Nat} (hQ : 0 < Q) : ∀ (k i a b : Nat), i + k = h → (2 ≤ i → a = rowN Q h N (i - 2)) → (1 ≤ i → b = rowN Q h N (i - 1)) → (∀ j a b a' b' c, j < 2 → (mk j a b c ↔ mk j a' b' c)) → (∀ a b a' c, mk 1 a b c ↔ mk 1 a' b c) →
    (RowE mk Q k i a b (N % Q ^ k) ↔ ∀ y, i ≤ y → y < h → mk y (rowN Q h N (y - 2)) (rowN Q h N (y - 1)) (rowN Q h N y))
  | 0, i, a, b, hk, _, _, _, _ => ⟨fun _ y h1 h2 => by omega, fun _ => trivial⟩
  | k + 1, i, a, b, hk, ha, hb, h0, h1 => by
    have hc : N % Q ^ (k + 1) / Q ^ k = rowN Q h N i := by
      unfold rowN
      rw [show h - 1 - i = k by omega, Nat.pow_succ, Nat.mod_mul_right_div_self]
    have hm : N % Q ^ (k + 1) % Q ^ k = N % Q ^ k := Nat.mod_mod_of_dvd _ ⟨Q, by rw [Nat.pow_succ]⟩
    have ih := rowE_all (mk := mk) (h := h) (N := N) hQ k (i + 1) b (rowN Q h N i) (by omega) (fun hi => by rw [hb (by omega)]; rfl) (fun _ => rfl) h0 h1
    have hhead : mk i a b (rowN Q h N i) ↔ mk i (rowN Q h N (i - 2)) (rowN Q h N (i - 1)) (rowN Q h N i) := by
      by_cases hi : i < 2
      · exact h0 i _ _ _ _ _ hi
      · rw [ha (by omega), hb (by omega)]
    unfold RowE
    rw [hc, hm, ih, hhead]
    constructor
    · rintro ⟨k1, k2⟩ y hy1 hy2
      rcases Nat.lt_or_eq_of_le hy1 with hlt | rfl
      · exact k2 y hlt hy2
      · exact k1
    · exact fun k1 => ⟨k1 i (Nat.le_refl _) (by omega), fun y hy1 hy2 => k1 y (by omega) hy2⟩
/-- CELL BY CELL: the cells behind a beginning P of so many cells are right; k cells are left, as digits of s. -/
def CelE (ck : Nat → Nat → Prop) : (k at' P s : Nat) → Prop
  | 0, _, _, _ => True
  | k + 1, at', P, s => ck at' (P * 2 + s / 2 ^ k) ∧ CelE ck k (at' + 1) (P * 2 + s / 2 ^ k) (s % 2 ^ k)
def CelF (ck : Nat → Nat → Prop) (k at' P : Nat) (o : Option Nat) : Prop := Least (CelE ck k at' P) (2 ^ k) o
theorem celE_digit {ck : Nat → Nat → Prop} {k at' P : Nat} (c s : Nat) (hs : s < 2 ^ k) : CelE ck (k + 1) at' P (c * 2 ^ k + s) ↔ (ck at' (P * 2 + c) ∧ CelE ck k (at' + 1) (P * 2 + c) s) := by
  show (ck at' (P * 2 + (c * 2 ^ k + s) / 2 ^ k) ∧ CelE ck k (at' + 1) (P * 2 + (c * 2 ^ k + s) / 2 ^ k) ((c * 2 ^ k + s) % 2 ^ k)) ↔ _
  rw [(dm hs).1, (dm hs).2]
theorem celF_end {ck : Nat → Nat → Prop} {at' P : Nat} : CelF ck 0 at' P (some 0) := Least.zero trivial
theorem celF_none {ck : Nat → Nat → Prop} {k at' P : Nat} (h : ∀ c, c < 2 → ck at' (P * 2 + c) → CelF ck k (at' + 1) (P * 2 + c) none) : CelF ck (k + 1) at' P none := by
  unfold CelF
  rw [Nat.pow_succ, Nat.mul_comm]
  refine Least.nodigit celE_digit fun c hc s hs hp => ?_
  exact h c hc hp.1 s hs hp.2
theorem celF_some {ck : Nat → Nat → Prop} {k at' P c s : Nat} (hc : c < 2) (h : ∀ c', c' < c → ck at' (P * 2 + c') → CelF ck k (at' + 1) (P * 2 + c') none) (hm : ck at' (P * 2 + c)) (hs : CelF ck k (at' + 1) (P * 2 + c) (some s)) : CelF ck (k + 1) at' P (some (c * 2 ^ k + s)) := by
  unfold CelF
  rw [Nat.pow_succ, Nat.mul_comm (2 ^ k) 2]
  refine Least.digit celE_digit hc (fun c' hc' s' hs' hp => h c' hc' hp.1 s' hs' hp.2) ⟨hs.1, ⟨hm, hs.2.1⟩, fun s' hs' hp => hs.2.2 s' hs' hp.2⟩
theorem celE_all {ck : Nat → Nat → Prop} {m N : Nat} : ∀ (k at' : Nat), at' + k = m → (CelE ck k at' (N / 2 ^ k) (N % 2 ^ k) ↔ ∀ t, at' ≤ t → t < m → ck t (N / 2 ^ (m - 1 - t)))
  | 0, at', hk => ⟨fun _ t h1 h2 => by omega, fun _ => trivial⟩
  | k + 1, at', hk => by
    have hc : N / 2 ^ (k + 1) * 2 + N % 2 ^ (k + 1) / 2 ^ k = N / 2 ^ k := by
      rw [Nat.pow_succ, Nat.mod_mul_right_div_self, ← Nat.div_div_eq_div_mul]
      exact Nat.div_add_mod' _ 2
    have hm : N % 2 ^ (k + 1) % 2 ^ k = N % 2 ^ k := Nat.mod_mod_of_dvd _ ⟨2, by rw [Nat.pow_succ]⟩
    have ih := celE_all (ck := ck) (m := m) (N := N) k (at' + 1) (by omega)
    unfold CelE
    rw [hc, hm, ih]
    constructor
    · rintro ⟨k1, k2⟩ t h1 h2
      rcases Nat.lt_or_eq_of_le h1 with hlt | rfl
      · exact k2 t hlt h2
      · have e : m - 1 - at' = k := by omega
        rw [e]; exact k1
    · exact fun k1 => ⟨by
        have k3 := k1 at' (Nat.le_refl _) (by omega)
        have e : m - 1 - at' = k := by omega
        rw [e] at k3
        exact k3, fun t h1 h2 => k1 t (by omega) h2⟩
/-- What comes of a beginning hangs on its last cells alone. -/
theorem celE_mod {ck : Nat → Nat → Prop} {M : Nat} (h : ∀ t P P', P % (2 * M) = P' % (2 * M) → (ck t P ↔ ck t P')) : ∀ (k at' P P' s : Nat), P % M = P' % M → (CelE ck k at' P s ↔ CelE ck k at' P' s)
  | 0, _, _, _, _, _ => Iff.rfl
  | k + 1, at', P, P', s, e => by
    have e2 : ∀ c, (P * 2 + c) % (2 * M) = (P' * 2 + c) % (2 * M) := fun c => by
      rw [Nat.add_mod, Nat.mul_comm P 2, Nat.mul_mod_mul_left, e, ← Nat.mul_mod_mul_left, Nat.mul_comm 2 P', ← Nat.add_mod]
    have e3 : ∀ c, (P * 2 + c) % M = (P' * 2 + c) % M := fun c => by
      rw [← Nat.mod_mod_of_dvd (P * 2 + c) ⟨2, Nat.mul_comm 2 M⟩, e2 c, Nat.mod_mod_of_dvd _ ⟨2, Nat.mul_comm 2 M⟩]
    unfold CelE
    rw [h at' _ _ (e2 _), celE_mod h k (at' + 1) _ _ _ (e3 _)]
theorem celF_mod {ck : Nat → Nat → Prop} {M : Nat} (h : ∀ t P P', P % (2 * M) = P' % (2 * M) → (ck t P ↔ ck t P')) {k at' P P' : Nat} (e : P % M = P' % M) {o : Option Nat} (hf : CelF ck k at' P o) : CelF ck k at' P' o :=
  Least.congr hf fun s _ => celE_mod h k at' P P' s e
/-- A cell, from behind. -/
def bt (P e : Nat) : Nat := P / 2 ^ e % 2
theorem bt_lt (P e : Nat) : bt P e < 2 := Nat.mod_lt _ (by decide)
theorem bt_mod {P P' M e : Nat} (h : P % 2 ^ M = P' % 2 ^ M) (he : e < M) : bt P e = bt P' e := by
  have k : ∀ X, bt X e = bt (X % 2 ^ M) e := fun X => by
    unfold bt
    rw [show M = e + (1 + (M - e - 1)) by omega, Nat.pow_add, Nat.mod_mul_right_div_self, Nat.pow_add, Nat.pow_one, Nat.mod_mul_right_mod]
  rw [k P, k P', h]
theorem bt_div (N d e : Nat) : bt (N / 2 ^ d) e = bt N (d + e) := by
  unfold bt
  rw [Nat.div_div_eq_div_mul, ← Nat.pow_add]
theorem bt_low (P c : Nat) (hc : c < 2) : bt (P * 2 + c) 0 = c := by
  unfold bt
  rw [Nat.pow_zero, Nat.div_one]
  omega
theorem bt_up (P c e : Nat) (hc : c < 2) : bt (P * 2 + c) (e + 1) = bt P e := by
  unfold bt
  rw [Nat.pow_succ, Nat.mul_comm (2 ^ e) 2, ← Nat.div_div_eq_div_mul, show (P * 2 + c) / 2 = P by omega]
/-- The nine cells of which the last one is the newest. -/
def nineB (w P : Nat) : Nat := bt P (2 * w + 2) + bt P (2 * w + 1) + bt P (2 * w) + (bt P (w + 2) + bt P (w + 1) + bt P w) + (bt P 2 + bt P 1 + bt P 0)
theorem nineB_mod {w P P' : Nat} (h : P % 2 ^ (2 * w + 3) = P' % 2 ^ (2 * w + 3)) : nineB w P = nineB w P' := by
  unfold nineB
  rw [bt_mod h (by omega), bt_mod h (show 2 * w + 1 < _ by omega), bt_mod h (show 2 * w < _ by omega), bt_mod h (show w + 2 < _ by omega), bt_mod h (show w + 1 < _ by omega), bt_mod h (show w < _ by omega), bt_mod h (show 2 < _ by omega), bt_mod h (show 1 < _ by omega), bt_mod h (show 0 < _ by omega)]
/-- The newest cell makes the one in the middle right. -/
def ckP (B S : Nat) (p : Nat → Nat → Nat) (w t P : Nat) : Prop := 2 ≤ t % w → 2 ≤ t / w → bec B S (bt P (w + 1)) (nineB w P - bt P (w + 1)) = p (t % w - 2) (t / w - 2)
theorem ckP_mod {B S w : Nat} {p : Nat → Nat → Nat} (t P P' : Nat) (h : P % (2 * 2 ^ (2 * w + 2)) = P' % (2 * 2 ^ (2 * w + 2))) : ckP B S p w t P ↔ ckP B S p w t P' := by
  have e : 2 * 2 ^ (2 * w + 2) = 2 ^ (2 * w + 3) := by rw [Nat.pow_succ 2 (2 * w + 2), Nat.mul_comm]
  rw [e] at h
  unfold ckP
  rw [nineB_mod h, bt_mod h (show w + 1 < _ by omega)]
/-- A cell of a row. -/
def rb (w r x : Nat) : Nat := r / 2 ^ (w - 1 - x) % 2
/-- The nine cells of three rows about place x + 1. -/
def nineR (w a b c x : Nat) : Nat := rb w a x + rb w a (x + 1) + rb w a (x + 2) + (rb w b x + rb w b (x + 1) + rb w b (x + 2)) + (rb w c x + rb w c (x + 1) + rb w c (x + 2))
/-- Three rows make a row of the pattern. -/
def mkR (B S : Nat) (p : Nat → Nat → Nat) (w W y a b c : Nat) : Prop := ∀ x, x < W → bec B S (rb w b (x + 1)) (nineR w a b c x - rb w b (x + 1)) = p x y
def mkI (B S : Nat) (p : Nat → Nat → Nat) (w W i a b c : Nat) : Prop := 2 ≤ i → mkR B S p w W (i - 2) a b c
/-- A number's cells make the pattern in their middle. -/
def MakesN (B S : Nat) (p : Nat → Nat → Nat) (W H N : Nat) : Prop := ∀ x y, x < W → y < H → ckP B S p (W + 2) ((y + 2) * (W + 2) + x + 2) (N / 2 ^ ((W + 2) * (H + 2) - 1 - ((y + 2) * (W + 2) + x + 2)))
theorem place {w x y : Nat} (hx : x < w) : (y * w + x) % w = x ∧ (y * w + x) / w = y := by
  exact ⟨(dm hx).2, (dm hx).1⟩
theorem cel_makes {B S W H N : Nat} {p : Nat → Nat → Nat} (hN : N < 2 ^ ((W + 2) * (H + 2))) : CelE (ckP B S p (W + 2)) ((W + 2) * (H + 2)) 0 0 N ↔ MakesN B S p W H N := by
  have h := celE_all (ck := ckP B S p (W + 2)) (N := N) ((W + 2) * (H + 2)) 0 (Nat.zero_add _)
  rw [Nat.div_eq_of_lt hN, Nat.mod_eq_of_lt hN] at h
  rw [h]
  constructor
  · intro k x y hx hy
    refine k _ (Nat.zero_le _) ?_
    have h1 : (y + 2) * (W + 2) + (x + 2) < (H + 2) * (W + 2) := by
      have := Nat.mul_le_mul_right (W + 2) (show y + 2 + 1 ≤ H + 2 by omega)
      rw [Nat.add_mul, Nat.one_mul] at this
      omega
    rw [Nat.mul_comm (W + 2) (H + 2)]
    omega
  · intro k t _ ht h1 h2
    have h3 : t / (W + 2) < H + 2 := Nat.div_lt_of_lt_mul ht
    have h4 := Nat.mod_lt t (show 0 < W + 2 by omega)
    have h5 := k (t % (W + 2) - 2) (t / (W + 2) - 2) (by omega) (by omega)
    have e : (t / (W + 2) - 2 + 2) * (W + 2) + (t % (W + 2) - 2) + 2 = t := by
      rw [show t / (W + 2) - 2 + 2 = t / (W + 2) by omega]
      have := Nat.div_add_mod' t (W + 2)
      omega
    rw [e] at h5
    exact h5 h1 h2
theorem rb_row {W H N x y : Nat} (hx : x < W + 2) (hy : y < H + 2) : rb (W + 2) (rowN (2 ^ (W + 2)) (H + 2) N y) x = bt N ((W + 2) * (H + 2 - 1 - y) + (W + 2 - 1 - x)) := by
  unfold rb rowN bt
  rw [← Nat.pow_mul]
  have e : 2 ^ (W + 2) = 2 ^ (W + 2 - 1 - x) * (2 * 2 ^ x) := by
    rw [← Nat.pow_succ', ← Nat.pow_add]
    congr 1
    omega
  rw [e, Nat.mod_mul_right_div_self, Nat.mod_mul_right_mod, Nat.div_div_eq_div_mul, ← Nat.pow_add]
theorem row_makes {B S W H N : Nat} {p : Nat → Nat → Nat} (hN : N < 2 ^ ((W + 2) * (H + 2))) : RowE (mkI B S p (W + 2) W) (2 ^ (W + 2)) (H + 2) 0 0 0 N ↔ MakesN B S p W H N := by
  have h := rowE_all (mk := mkI B S p (W + 2) W) (Q := 2 ^ (W + 2)) (h := H + 2) (N := N) (Nat.pow_pos (by decide)) (H + 2) 0 0 0 (Nat.zero_add _) (fun h => by omega) (fun h => by omega) (fun j a b a' b' c hj => ⟨fun _ h => by omega, fun _ h => by omega⟩) (fun a b a' c => ⟨fun _ h => by omega, fun _ h => by omega⟩)
  rw [← Nat.pow_mul, Nat.mod_eq_of_lt hN] at h
  rw [h]
  have key : ∀ x y, x < W → y < H → (ckP B S p (W + 2) ((y + 2) * (W + 2) + x + 2) (N / 2 ^ ((W + 2) * (H + 2) - 1 - ((y + 2) * (W + 2) + x + 2))) ↔ bec B S (rb (W + 2) (rowN (2 ^ (W + 2)) (H + 2) N (y + 1)) (x + 1)) (nineR (W + 2) (rowN (2 ^ (W + 2)) (H + 2) N y) (rowN (2 ^ (W + 2)) (H + 2) N (y + 1)) (rowN (2 ^ (W + 2)) (H + 2) N (y + 2)) x - rb (W + 2) (rowN (2 ^ (W + 2)) (H + 2) N (y + 1)) (x + 1)) = p x y) := by
    intro x y hx hy
    obtain ⟨d, rfl⟩ : ∃ d, H = y + 1 + d := ⟨H - y - 1, by omega⟩
    obtain ⟨u, rfl⟩ : ∃ u, W = x + 1 + u := ⟨W - x - 1, by omega⟩
    have e1 : ((y + 2) * (x + 1 + u + 2) + x + 2) % (x + 1 + u + 2) = x + 2 := (place (w := x + 1 + u + 2) (x := x + 2) (y := y + 2) (by omega)).1
    have e2 : ((y + 2) * (x + 1 + u + 2) + x + 2) / (x + 1 + u + 2) = y + 2 := (place (w := x + 1 + u + 2) (x := x + 2) (y := y + 2) (by omega)).2
    have e3 : (x + 1 + u + 2) * (y + 1 + d + 2) - 1 - ((y + 2) * (x + 1 + u + 2) + x + 2) = (x + 1 + u + 2) * d + u := by
      have : (x + 1 + u + 2) * (y + 1 + d + 2) = (y + 2) * (x + 1 + u + 2) + (x + 1 + u + 2) * d + (x + 1 + u + 2) := by
        rw [Nat.mul_comm (y + 2), show y + 1 + d + 2 = (y + 2) + d + 1 by omega, Nat.mul_add, Nat.mul_add, Nat.mul_one]
      omega
    have r : ∀ x' y', x' < x + 1 + u + 2 → y' < y + 1 + d + 2 → rb (x + 1 + u + 2) (rowN (2 ^ (x + 1 + u + 2)) (y + 1 + d + 2) N y') x' = bt N ((x + 1 + u + 2) * (y + 1 + d + 2 - 1 - y') + (x + 1 + u + 2 - 1 - x')) := fun x' y' h1 h2 => rb_row (W := x + 1 + u) (H := y + 1 + d) h1 h2
    have m1 : (x + 1 + u + 2) * (d + 1) = (x + 1 + u + 2) * d + (x + 1 + u + 2) := by rw [Nat.mul_add, Nat.mul_one]
    have m2 : (x + 1 + u + 2) * (d + 2) = (x + 1 + u + 2) * d + 2 * (x + 1 + u + 2) := by rw [Nat.mul_add, Nat.mul_comm _ 2]
    have f0 : y + 1 + d + 2 - 1 - y = d + 2 := by omega
    have f1 : y + 1 + d + 2 - 1 - (y + 1) = d + 1 := by omega
    have f2 : y + 1 + d + 2 - 1 - (y + 2) = d := by omega
    have g0 : x + 1 + u + 2 - 1 - x = u + 2 := by omega
    have g1 : x + 1 + u + 2 - 1 - (x + 1) = u + 1 := by omega
    have g2 : x + 1 + u + 2 - 1 - (x + 2) = u := by omega
    unfold ckP nineR nineB
    rw [e1, e2, e3]
    simp only [bt_div]
    rw [r x y (by omega) (by omega), r (x + 1) y (by omega) (by omega), r (x + 2) y (by omega) (by omega), r x (y + 1) (by omega) (by omega), r (x + 1) (y + 1) (by omega) (by omega), r (x + 2) (y + 1) (by omega) (by omega), r x (y + 2) (by omega) (by omega), r (x + 1) (y + 2) (by omega) (by omega), r (x + 2) (y + 2) (by omega) (by omega)]
    rw [f0, f1, f2, g0, g1, g2, m1, m2]
    generalize (x + 1 + u + 2) * d = M
    rw [show M + u + (2 * (x + 1 + u + 2) + 2) = M + 2 * (x + 1 + u + 2) + (u + 2) by omega, show M + u + (2 * (x + 1 + u + 2) + 1) = M + 2 * (x + 1 + u + 2) + (u + 1) by omega, show M + u + 2 * (x + 1 + u + 2) = M + 2 * (x + 1 + u + 2) + u by omega,
      show M + u + (x + 1 + u + 2 + 2) = M + (x + 1 + u + 2) + (u + 2) by omega, show M + u + (x + 1 + u + 2 + 1) = M + (x + 1 + u + 2) + (u + 1) by omega, show M + u + (x + 1 + u + 2) = M + (x + 1 + u + 2) + u by omega,
      show M + u + 2 = M + (u + 2) by omega, show M + u + 1 = M + (u + 1) by omega, show M + u + 0 = M + u by omega]
    rw [show x + 2 - 2 = x by omega, show y + 2 - 2 = y by omega]
    exact ⟨fun k => k (by omega) (by omega), fun k _ _ => k⟩
  constructor
  · intro k x y hx hy
    rw [key x y hx hy]
    exact k (y + 2) (Nat.zero_le _) (by omega) (by omega) x hx
  · intro k y' _ hy' h2 x hx
    obtain ⟨y, rfl⟩ : ∃ y, y' = y + 2 := ⟨y' - 2, by omega⟩
    exact (key x y hx (by omega)).1 (k x y hx (by omega))
/-- THE TWO WAYS FIND ONE. -/
theorem parents_one {B S W H : Nat} {p : Nat → Nat → Nat} {o o' : Option Nat} (h : RowF (mkI B S p (W + 2) W) (2 ^ (W + 2)) (H + 2) 0 0 0 o) (h' : CelF (ckP B S p (W + 2)) ((W + 2) * (H + 2)) 0 0 o') : o = o' := by
  unfold RowF at h
  rw [← Nat.pow_mul] at h
  exact Least.one (Least.congr h fun s hs => row_makes hs) (Least.congr h' fun s hs => cel_makes hs)
end Pn
end Go.Proofs.YthipeeagpllfeaaDoor
