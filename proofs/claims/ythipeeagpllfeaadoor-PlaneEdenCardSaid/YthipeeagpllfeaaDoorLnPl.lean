/- PLAIN LAW of lines: windows as numbers, a step on a ring, what is moved round, one rule of two, another radius; no program in sight. -/
import Derived.WalkKit
namespace Go.Proofs.YthipeeagpllfeaaDoor
set_option linter.unusedSimpArgs false
set_option linter.unusedVariables false
namespace Ln

/-- A window's number: its first n cells, the first counts most. -/
def win (st : Nat) : Nat → (Nat → Nat) → Nat
  | 0, _ => 0
  | n + 1, f => win st n f * st + f n
theorem win_congr {st : Nat} {f g : Nat → Nat} : ∀ {n : Nat}, (∀ k, k < n → f k = g k) → win st n f = win st n g
  | 0, _ => rfl
  | n + 1, h => by
    unfold win
    rw [win_congr fun k hk => h k (by omega), h n (by omega)]
theorem win_lt {st : Nat} {f : Nat → Nat} : ∀ {n : Nat}, (∀ k, k < n → f k < st) → win st n f < st ^ n
  | 0, _ => by simp [win]
  | n + 1, h => by
    have h1 := win_lt (n := n) fun k hk => h k (by omega)
    have h2 := h n (by omega)
    unfold win
    rw [Nat.pow_succ]
    have h3 : (win st n f + 1) * st ≤ st ^ n * st := Nat.mul_le_mul_right st h1
    rw [Nat.succ_mul] at h3
    omega
/-- The cells of a number's window. -/
def dig (st n i k : Nat) : Nat := i / st ^ (n - 1 - k) % st
theorem dig_win {st : Nat} {f : Nat → Nat} : ∀ {n k : Nat}, (∀ k, k < n → f k < st) → k < n → dig st n (win st n f) k = f k
  | 0, k, _, hk => absurd hk (Nat.not_lt_zero _)
  | n + 1, k, h, hk => by
    have hn := h n (by omega)
    have hst : 0 < st := by omega
    unfold dig win
    by_cases e : k = n
    · subst e
      rw [show k + 1 - 1 - k = 0 from by omega, Nat.pow_zero, Nat.div_one, Nat.add_comm, Nat.add_mul_mod_self_right, Nat.mod_eq_of_lt hn]
    · have ih := dig_win (st := st) (f := f) (n := n) (k := k) (fun k hk => h k (by omega)) (by omega)
      unfold dig at ih
      rw [show n + 1 - 1 - k = (n - 1 - k) + 1 from by omega, Nat.pow_succ, Nat.mul_comm (st ^ (n - 1 - k)) st, ← Nat.div_div_eq_div_mul,
        show (win st n f * st + f n) / st = win st n f from by rw [Nat.add_comm, Nat.add_mul_div_right _ _ hst, Nat.div_eq_of_lt hn, Nat.zero_add]]
      exact ih
theorem dig_lt {st n i k : Nat} (h : 0 < st) : dig st n i k < st := Nat.mod_lt _ h

/-- What becomes of a word, whose cells have all around them. -/
def app (t : Nat → Nat) (st R : Nat) (w : Nat → Nat) (i : Nat) : Nat := t (win st (2 * R + 1) fun k => w (i + k))
/-- Where a cell of a ring stands, R cells to the left. -/
def ix (n R j : Nat) : Nat := (j + R * n - R) % n
theorem ix_lt {n R j : Nat} (h : 0 < n) : ix n R j < n := Nat.mod_lt _ h
/-- A step on a ring of n cells. -/
def stp (t : Nat → Nat) (st R n : Nat) (w : Nat → Nat) (i : Nat) : Nat := t (win st (2 * R + 1) fun k => w (ix n R (i + k)))
theorem stp_app {t : Nat → Nat} {st R n : Nat} {w : Nat → Nat} {i : Nat} : app t st R (fun j => w (ix n R j)) i = stp t st R n w i := rfl
theorem le_mul {R n : Nat} (h : 0 < n) : R ≤ R * n := Nat.le_mul_of_pos_right R h
/-- Two indices are the same on a ring. -/
theorem ix_mod {n R j : Nat} (h : 0 < n) : ix n R (j % n) = ix n R j := by
  unfold ix
  have h1 := le_mul (R := R) h
  rw [show j % n + R * n - R = j % n + (R * n - R) from by omega, show j + R * n - R = j + (R * n - R) from by omega, Nat.mod_add_mod]
theorem ix_add {n R j a : Nat} (h : 0 < n) : (ix n R j + a) % n = ix n R (j + a) := by
  unfold ix
  have h1 := le_mul (R := R) h
  rw [Nat.mod_add_mod, show j + R * n - R + a = j + a + R * n - R from by omega]
theorem ix_ix {n R S j k : Nat} (h : 0 < n) : ix n R (ix n S j + k) = ix n (S + R) (j + k) := by
  have h1 := le_mul (R := R) h
  have h2 := le_mul (R := S) h
  rw [← ix_mod h, ix_add h]
  show (ix n S (j + k) + R * n - R) % n = _
  unfold ix
  rw [show (j + k + S * n - S) % n + R * n - R = (j + k + S * n - S) % n + (R * n - R) from by omega, Nat.mod_add_mod, Nat.add_mul]
  congr 1
  omega
/-- WHAT IS MOVED ROUND. -/
theorem stp_moved {t : Nat → Nat} {st R n b : Nat} {w : Nat → Nat} {i : Nat} (h : 0 < n) : stp t st R n (fun j => w ((j + b) % n)) i = stp t st R n w ((i + b) % n) := by
  unfold stp
  congr 1
  refine win_congr fun k _ => ?_
  show w ((ix n R (i + k) + b) % n) = w (ix n R ((i + b) % n + k))
  congr 1
  rw [ix_add h, ← ix_mod h (j := i + k + b), ← ix_mod h (j := (i + b) % n + k), Nat.mod_add_mod, show i + b + k = i + k + b from by omega]
/-- ONE RULE OF TWO. -/
def comp (ta tb : Nat → Nat) (st Ra Rb i : Nat) : Nat := app tb st Rb (app ta st Ra fun k => dig st (2 * (Ra + Rb) + 1) i k) 0
theorem stp_comp {ta tb : Nat → Nat} {st Ra Rb n : Nat} {w : Nat → Nat} {i : Nat} (h : 0 < n) (hw : ∀ j, w j < st) :
    stp (comp ta tb st Ra Rb) st (Ra + Rb) n w i = stp tb st Rb n (stp ta st Ra n w) i := by
  show app tb st Rb (app ta st Ra fun k => dig st (2 * (Ra + Rb) + 1) (win st (2 * (Ra + Rb) + 1) fun k => w (ix n (Ra + Rb) (i + k))) k) 0 = _
  unfold app stp
  congr 1
  refine win_congr fun j hj => ?_
  congr 1
  refine win_congr fun k hk => ?_
  dsimp only
  rw [dig_win (fun k _ => hw _) (by omega), ix_ix h, show i + (0 + j + k) = i + j + k from by omega, Nat.add_comm Rb Ra]
/-- ANOTHER RADIUS. -/
def wide (t : Nat → Nat) (st R S i : Nat) : Nat := app t st R (fun k => dig st (2 * S + 1) i (S - R + k)) 0
theorem stp_wide {t : Nat → Nat} {st R S n : Nat} {w : Nat → Nat} {i : Nat} (h : 0 < n) (hR : R ≤ S) (hw : ∀ j, w j < st) : stp (wide t st R S) st S n w i = stp t st R n w i := by
  show app t st R (fun k => dig st (2 * S + 1) (win st (2 * S + 1) fun k => w (ix n S (i + k))) (S - R + k)) 0 = _
  unfold app stp
  congr 1
  refine win_congr fun k hk => ?_
  dsimp only
  rw [dig_win (fun k _ => hw _) (by omega)]
  congr 1
  have h1 := le_mul (R := R) h
  have h2 : S * n = R * n + (S - R) * n := by rw [← Nat.add_mul]; congr 1; omega
  have h3 := le_mul (R := S - R) h
  unfold ix
  rw [h2, show i + (S - R + (0 + k)) + (R * n + (S - R) * n) - S = (i + k + R * n - R) + (S - R) * n from by omega, Nat.add_mul_mod_self_right]
/-- n steps. -/
def go (t : Nat → Nat) (st R n : Nat) (w : Nat → Nat) : Nat → Nat → Nat
  | 0 => w
  | m + 1 => stp t st R n (go t st R n w m)
theorem stp_congr {t : Nat → Nat} {st R n : Nat} {w v : Nat → Nat} (h : 0 < n) (e : ∀ j, j < n → w j = v j) (i : Nat) : stp t st R n w i = stp t st R n v i := by
  unfold stp
  congr 1
  exact win_congr fun k _ => e _ (ix_lt h)
end Ln
end Go.Proofs.YthipeeagpllfeaaDoor
