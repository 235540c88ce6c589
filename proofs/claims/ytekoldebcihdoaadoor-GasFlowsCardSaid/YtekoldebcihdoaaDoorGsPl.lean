/- PLAIN: gases: where a direction leads, what a step makes of cells, what it keeps, and that all comes back; no program in sight. -/
import Derived.Test.YtekoldebcihdoaaDoorMem
namespace Go.Proofs.YtekoldebcihdoaaDoor
set_option linter.unusedSimpArgs false
set_option linter.unusedVariables false
namespace Gs

/-- One more than how far a direction goes to the right, and down. -/
def dX (K d o : Nat) : Nat := if K = 4 then [2, 1, 0, 1].getD d 1 else [2, 1 + o, o, 0, o, 1 + o].getD d 1
def dY (K d : Nat) : Nat := if K = 4 then [1, 0, 1, 2].getD d 1 else [1, 0, 0, 1, 2, 2].getD d 1
def opp (K d : Nat) : Nat := (d + K / 2) % K
def nxt (K W H k d : Nat) : Nat := (k / W + dY K d + (H - 1)) % H * W + (k % W + dX K d (k / W % 2) + (W - 1)) % W
/-- A kind, sides. -/
structure Ok (K W H : Nat) : Prop where
  w : 1 ≤ W
  h : 1 ≤ H
  k : K = 4 ∨ (K = 6 ∧ H % 2 = 0)

theorem at_lt {W H x y : Nat} (hx : x < W) (hy : y < H) : y * W + x < W * H := by
  have h : (y + 1) * W ≤ H * W := Nat.mul_le_mul_right W hy
  rw [Nat.succ_mul, Nat.mul_comm H W] at h
  omega
theorem at_mod {W x y : Nat} (hx : x < W) : (y * W + x) % W = x := by
  rw [Nat.add_comm, Nat.add_mul_mod_self_right]
  exact Nat.mod_eq_of_lt hx
theorem at_div {W x y : Nat} (hx : x < W) : (y * W + x) / W = y := by
  rw [Nat.add_comm, Nat.add_mul_div_right _ _ (by omega), Nat.div_eq_of_lt hx, Nat.zero_add]
theorem at_of {W H k : Nat} (h : k < W * H) : k % W < W ∧ k / W < H ∧ k / W * W + k % W = k := by
  have hW : 0 < W := by
    rcases Nat.eq_zero_or_pos W with h0 | h0
    · subst h0; simp at h
    · exact h0
  refine ⟨Nat.mod_lt _ hW, ?_, ?_⟩
  · exact Nat.div_lt_of_lt_mul h
  · rw [Nat.mul_comm]; exact Nat.div_add_mod k W
theorem opp_lt {K W H d : Nat} (h : Ok K W H) (hd : d < K) : opp K d < K := Nat.mod_lt _ (by omega)
theorem opp_opp {K W H d : Nat} (h : Ok K W H) (hd : d < K) : opp K (opp K d) = d := by
  unfold opp
  rcases h.k with rfl | ⟨rfl, _⟩ <;> omega
theorem nxt_lt {K W H k d : Nat} (h : Ok K W H) : nxt K W H k d < W * H :=
  at_lt (Nat.mod_lt _ h.w) (Nat.mod_lt _ h.h)
theorem ring {W x a b : Nat} (hx : x < W) (hab : a + b = 2) : ((x + a + (W - 1)) % W + b + (W - 1)) % W = x := by
  have e : ((x + a + (W - 1)) % W + b + (W - 1)) % W = ((x + a + (W - 1)) + (b + (W - 1))) % W := by
    rw [Nat.add_assoc ((x + a + (W - 1)) % W), Nat.mod_add_mod]
  rw [e, show (x + a + (W - 1)) + (b + (W - 1)) = x + W + W by omega, Nat.add_mod_right, Nat.add_mod_right, Nat.mod_eq_of_lt hx]
theorem dY_opp {K W H d : Nat} (h : Ok K W H) (hd : d < K) : dY K d + dY K (opp K d) = 2 := by
  rcases h.k with rfl | ⟨rfl, _⟩
  · have : ∀ d, d < 4 → dY 4 d + dY 4 (opp 4 d) = 2 := by decide
    exact this d hd
  · have : ∀ d, d < 6 → dY 6 d + dY 6 (opp 6 d) = 2 := by decide
    exact this d hd
theorem dX_opp {K W H d y : Nat} (h : Ok K W H) (hd : d < K) : dX K d (y % 2) + dX K (opp K d) ((y + dY K d + (H - 1)) % H % 2) = 2 := by
  rcases h.k with rfl | ⟨rfl, h2⟩
  · have : ∀ d, d < 4 → ∀ o p, dX 4 d o + dX 4 (opp 4 d) p = 2 := by
      intro d hd o p
      match d, hd with
      | 0, _ => rfl
      | 1, _ => rfl
      | 2, _ => rfl
      | 3, _ => rfl
    exact this d hd _ _
  · have e : (y + dY 6 d + (H - 1)) % H % 2 = (y % 2 + dY 6 d + 1) % 2 := by
      rw [Nat.mod_mod_of_dvd _ (Nat.dvd_of_mod_eq_zero h2)]
      have := h.h
      omega
    rw [e]
    have : ∀ d, d < 6 → ∀ o, o < 2 → dX 6 d o + dX 6 (opp 6 d) ((o + dY 6 d + 1) % 2) = 2 := by decide
    exact this d hd _ (Nat.mod_lt _ (by omega))
/-- There and back. -/
theorem nxt_opp {K W H k d : Nat} (h : Ok K W H) (hk : k < W * H) (hd : d < K) : nxt K W H (nxt K W H k d) (opp K d) = k := by
  obtain ⟨h1, h2, h3⟩ := at_of hk
  have hx : (k % W + dX K d (k / W % 2) + (W - 1)) % W < W := Nat.mod_lt _ h.w
  have e1 : nxt K W H k d / W = (k / W + dY K d + (H - 1)) % H := at_div hx
  have e2 : nxt K W H k d % W = (k % W + dX K d (k / W % 2) + (W - 1)) % W := at_mod hx
  have e3 : nxt K W H (nxt K W H k d) (opp K d) = (nxt K W H k d / W + dY K (opp K d) + (H - 1)) % H * W + (nxt K W H k d % W + dX K (opp K d) (nxt K W H k d / W % 2) + (W - 1)) % W := rfl
  rw [e3, e1, e2, ring h2 (dY_opp h hd), ring h1 (dX_opp h hd)]
  exact h3
theorem nxt_opp2 {K W H k d : Nat} (h : Ok K W H) (hk : k < W * H) (hd : d < K) : nxt K W H (nxt K W H k (opp K d)) d = k := by
  have := nxt_opp h hk (opp_lt h hd)
  rwa [opp_opp h hd] at this
/-- Whence a direction comes. -/
def pre (K W H j e : Nat) : Nat := nxt K W H j (opp K e)
theorem pre_lt {K W H j e : Nat} (h : Ok K W H) : pre K W H j e < W * H := nxt_lt h
theorem pre_iff {K W H j k e : Nat} (h : Ok K W H) (hj : j < W * H) (hk : k < W * H) (he : e < K) : pre K W H j e = k ↔ j = nxt K W H k e := by
  constructor
  · intro e1; rw [← e1]; exact (nxt_opp2 h hj he).symm
  · intro e1; rw [e1]; exact nxt_opp h hk he

/-! ### bits -/
def bit (c e : Nat) : Nat := c / 2 ^ e % 2
theorem bit_le (c e : Nat) : bit c e ≤ 1 := by unfold bit; omega
def sumB (b : Nat → Nat) : Nat → Nat
  | 0 => 0
  | e + 1 => sumB b e + b e * 2 ^ e
theorem sumB_lt {b : Nat → Nat} (hb : ∀ e, b e ≤ 1) : ∀ n, sumB b n < 2 ^ n
  | 0 => by simp [sumB]
  | n + 1 => by
    have h1 := sumB_lt hb n
    have h2 : b n * 2 ^ n ≤ 1 * 2 ^ n := Nat.mul_le_mul_right _ (hb n)
    unfold sumB
    rw [Nat.pow_succ]
    omega
theorem bit_sumB {b : Nat → Nat} (hb : ∀ e, b e ≤ 1) : ∀ n e, e < n → bit (sumB b n) e = b e
  | 0, e, h => absurd h (Nat.not_lt_zero _)
  | n + 1, e, h => by
    have h1 := sumB_lt hb n
    unfold sumB bit
    by_cases e1 : e = n
    · subst e1
      rw [Nat.add_mul_div_right _ _ (Nat.two_pow_pos e), Nat.div_eq_of_lt h1, Nat.zero_add, Nat.mod_eq_of_lt (by have := hb e; omega)]
    · obtain ⟨m, rfl⟩ : ∃ m, n = e + 1 + m := ⟨n - e - 1, by omega⟩
      have e2 : b (e + 1 + m) * 2 ^ (e + 1 + m) = (b (e + 1 + m) * 2 ^ m * 2) * 2 ^ e := by
        rw [Nat.pow_add, Nat.pow_succ]
        ac_rfl
      rw [e2, Nat.add_mul_div_right _ _ (Nat.two_pow_pos e), Nat.add_mul_mod_self_right]
      exact bit_sumB hb (e + 1 + m) e (by omega)
theorem sumB_congr {b c : Nat → Nat} : ∀ n, (∀ e, e < n → b e = c e) → sumB b n = sumB c n
  | 0, _ => rfl
  | n + 1, h => by unfold sumB; rw [sumB_congr n fun e he => h e (by omega), h n (by omega)]
theorem sumB_one {b c : Nat → Nat} {d v : Nat} (h : ∀ e, e ≠ d → c e = b e) (h2 : c d = b d + v) : ∀ n, sumB c n = sumB b n + if d < n then v * 2 ^ d else 0
  | 0 => by simp [sumB]
  | n + 1 => by
    unfold sumB
    rw [sumB_one h h2 n]
    by_cases e : n = d
    · subst e
      rw [h2, if_neg (Nat.lt_irrefl _), if_pos (Nat.lt_succ_self _), Nat.add_mul]
      omega
    · rw [h n e]
      by_cases h3 : d < n
      · rw [if_pos h3, if_pos (by omega)]; omega
      · rw [if_neg h3, if_neg (by omega)]; omega
theorem sumB_zero {b : Nat → Nat} : ∀ n, (∀ e, e < n → b e = 0) → sumB b n = 0
  | 0, _ => rfl
  | n + 1, h => by unfold sumB; rw [sumB_zero n fun e he => h e (by omega), h n (by omega)]; simp
theorem sumB_bit : ∀ n c, c < 2 ^ n → sumB (bit c) n = c
  | 0, c, h => by simp at h; subst h; rfl
  | n + 1, c, h => by
    have h1 : sumB (bit c) n = sumB (bit (c % 2 ^ n)) n := sumB_congr n fun e he => by
      unfold bit
      obtain ⟨m, rfl⟩ : ∃ m, n = e + 1 + m := ⟨n - e - 1, by omega⟩
      have h2 : c = c % 2 ^ (e + 1 + m) + (c / 2 ^ (e + 1 + m) * 2 ^ m * 2) * 2 ^ e := by
        have e2 : (c / 2 ^ (e + 1 + m) * 2 ^ m * 2) * 2 ^ e = c / 2 ^ (e + 1 + m) * 2 ^ (e + 1 + m) := by
          rw [Nat.pow_add 2 (e + 1) m, Nat.pow_succ]
          ac_rfl
        rw [e2, Nat.mul_comm]; exact (Nat.mod_add_div c _).symm
      generalize c / 2 ^ (e + 1 + m) * 2 ^ m = q at h2
      generalize c % 2 ^ (e + 1 + m) = r at h2 ⊢
      rw [h2, Nat.add_mul_div_right _ _ (Nat.two_pow_pos e), Nat.add_mul_mod_self_right]
    unfold sumB
    rw [h1, sumB_bit n _ (Nat.mod_lt _ (Nat.two_pow_pos n))]
    have h3 : bit c n = c / 2 ^ n := by
      unfold bit
      rw [Nat.mod_eq_of_lt]
      rw [Nat.pow_succ] at h
      exact Nat.div_lt_of_lt_mul h
    rw [h3, Nat.mul_comm]
    exact Nat.mod_add_div c _

/-! ### a step's cells, one particle after the other -/
/-- What has come to the cell j in the direction e, when all directions of the cells below k, and d of k's, are done; in the order r. -/
def don (K W H : Nat) (r : Nat → Nat) (f : Nat → Nat) (k d j e : Nat) : Nat := if pre K W H j e < k ∨ (pre K W H j e = k ∧ r e < d) then bit (f (pre K W H j e)) (r e) else 0
theorem don_le {K W H : Nat} {r f : Nat → Nat} {k d j : Nat} (e : Nat) : don K W H r f k d j e ≤ 1 := by
  unfold don
  split
  · exact bit_le _ _
  · omega
def outS (K W H : Nat) (r : Nat → Nat) (f : Nat → Nat) (k d j : Nat) : Nat := sumB (don K W H r f k d j) K
theorem outS_lt {K W H : Nat} {r f : Nat → Nat} {k d j : Nat} : outS K W H r f k d j < 2 ^ K := sumB_lt don_le K
theorem outS_zero {K W H : Nat} {r f : Nat → Nat} {j : Nat} : outS K W H r f 0 0 j = 0 := sumB_zero K fun e he => by unfold don; simp
/-- An order. -/
def Ord (K : Nat) (r : Nat → Nat) : Prop := ∀ e, e < K → r e < K ∧ r (r e) = e
theorem ord_id (K : Nat) : Ord K id := fun e he => ⟨he, rfl⟩
theorem ord_opp {K W H : Nat} (h : Ok K W H) : Ord K (opp K) := fun e he => ⟨opp_lt h he, opp_opp h he⟩
theorem don_at {K W H : Nat} {r f : Nat → Nat} {k d : Nat} (h : Ok K W H) (hr : Ord K r) (hk : k < W * H) (hd : d < K) : don K W H r f k d (nxt K W H k (r d)) (r d) = 0 := by
  have e := (pre_iff h (nxt_lt h) hk (hr d hd).1).2 rfl
  unfold don
  rw [e, (hr d hd).2, if_neg (by omega)]
theorem don_next {K W H : Nat} {r f : Nat → Nat} {k d : Nat} (h : Ok K W H) (hr : Ord K r) (hk : k < W * H) (hd : d < K) : don K W H r f k (d + 1) (nxt K W H k (r d)) (r d) = bit (f k) d := by
  have e := (pre_iff h (nxt_lt h) hk (hr d hd).1).2 rfl
  unfold don
  rw [e, (hr d hd).2, if_pos (by omega)]
theorem don_else {K W H : Nat} {r f : Nat → Nat} {k d j e : Nat} (h : Ok K W H) (hr : Ord K r) (hk : k < W * H) (hj : j < W * H) (hd : d < K) (he : e < K) (hne : ¬ (j = nxt K W H k (r d) ∧ e = r d)) : don K W H r f k (d + 1) j e = don K W H r f k d j e := by
  have h1 := pre_iff (e := e) h hj hk he
  unfold don
  by_cases h2 : pre K W H j e = k
  · have h3 := h1.1 h2
    have h4 : r e ≠ d := fun e4 => hne ⟨by rw [h3, ← e4, (hr e he).2], by rw [← e4, (hr e he).2]⟩
    by_cases h5 : pre K W H j e < k ∨ (pre K W H j e = k ∧ r e < d)
    · rw [if_pos h5, if_pos (by omega)]
    · rw [if_neg h5, if_neg (by omega)]
  · by_cases h5 : pre K W H j e < k ∨ (pre K W H j e = k ∧ r e < d)
    · rw [if_pos h5, if_pos (by omega)]
    · rw [if_neg h5, if_neg (by omega)]
theorem outS_else {K W H : Nat} {r f : Nat → Nat} {k d j : Nat} (h : Ok K W H) (hr : Ord K r) (hk : k < W * H) (hj : j < W * H) (hd : d < K) (hne : j ≠ nxt K W H k (r d)) : outS K W H r f k (d + 1) j = outS K W H r f k d j :=
  sumB_congr K fun e he => don_else h hr hk hj hd he fun x => hne x.1
theorem outS_at {K W H : Nat} {r f : Nat → Nat} {k d : Nat} (h : Ok K W H) (hr : Ord K r) (hk : k < W * H) (hd : d < K) :
    outS K W H r f k (d + 1) (nxt K W H k (r d)) = outS K W H r f k d (nxt K W H k (r d)) + bit (f k) d * 2 ^ r d := by
  have h1 : ∀ n, n ≤ K → sumB (don K W H r f k (d + 1) (nxt K W H k (r d))) n = sumB (fun e => if e < K then (if e = r d then don K W H r f k d (nxt K W H k (r d)) e + bit (f k) d else don K W H r f k d (nxt K W H k (r d)) e) else don K W H r f k d (nxt K W H k (r d)) e) n := fun n hn => sumB_congr n fun e he => by
    have heK : e < K := by omega
    rw [if_pos heK]
    by_cases e1 : e = r d
    · subst e1
      rw [if_pos rfl, don_next h hr hk hd, don_at h hr hk hd, Nat.zero_add]
    · rw [if_neg e1]
      exact don_else h hr hk (nxt_lt h) hd heK fun x => e1 x.2
  unfold outS
  rw [h1 K (Nat.le_refl _), sumB_one (b := don K W H r f k d (nxt K W H k (r d))) (d := r d) (v := bit (f k) d) (fun e he => ?_) ?_ K, if_pos (hr d hd).1]
  · (try dsimp only)
    rw [if_pos (hr d hd).1, if_pos rfl]
  · (try dsimp only)
    by_cases e1 : e < K
    · rw [if_pos e1, if_neg he]
    · rw [if_neg e1]
theorem outS_free {K W H : Nat} {r f : Nat → Nat} {k d : Nat} (h : Ok K W H) (hr : Ord K r) (hk : k < W * H) (hd : d < K) : bit (outS K W H r f k d (nxt K W H k (r d))) (r d) = 0 := by
  unfold outS
  rw [bit_sumB don_le K _ (hr d hd).1]
  exact don_at h hr hk hd
theorem outS_cell {K W H : Nat} {r f : Nat → Nat} {k j : Nat} (hr : Ord K r) : outS K W H r f k K j = outS K W H r f (k + 1) 0 j := sumB_congr K fun e he => by
  have h1 := (hr e he).1
  unfold don
  by_cases h2 : pre K W H j e < k ∨ (pre K W H j e = k ∧ r e < K)
  · rw [if_pos h2, if_pos (by omega)]
  · rw [if_neg h2, if_neg (by omega)]
/-- What all have come to. -/
def all1 (K W H : Nat) (r : Nat → Nat) (f : Nat → Nat) (j : Nat) : Nat := sumB (fun e => bit (f (pre K W H j e)) (r e)) K
theorem all1_lt {K W H : Nat} {r f : Nat → Nat} {j : Nat} : all1 K W H r f j < 2 ^ K := sumB_lt (fun e => bit_le _ _) K
theorem outS_all {K W H : Nat} {r f : Nat → Nat} {j : Nat} (h : Ok K W H) : outS K W H r f (W * H) 0 j = all1 K W H r f j := sumB_congr K fun e he => by
  unfold don
  rw [if_pos (.inl (pre_lt h))]
theorem all1_congr {K W H : Nat} {r f g : Nat → Nat} (h : Ok K W H) (hf : ∀ k, k < W * H → f k = g k) (j : Nat) : all1 K W H r f j = all1 K W H r g j := sumB_congr K fun e he => by
  rw [hf _ (pre_lt h)]

/-! ### what is kept -/
def wsum (v : Nat → Int) (b : Nat → Nat) : Nat → Int
  | 0 => 0
  | e + 1 => wsum v b e + (b e : Int) * v e
theorem wsum_congr {v : Nat → Int} {b c : Nat → Nat} : ∀ n, (∀ e, e < n → b e = c e) → wsum v b n = wsum v c n
  | 0, _ => rfl
  | n + 1, h => by unfold wsum; rw [wsum_congr n fun e he => h e (by omega), h n (by omega)]
theorem wsum_one {v : Nat → Int} {b c : Nat → Nat} {d : Nat} (h2 : b d = 0) : ∀ n, (∀ e, e < n → e ≠ d → c e = b e) → wsum v c n = wsum v b n + if d < n then (c d : Int) * v d else 0
  | 0, _ => by simp [wsum]
  | n + 1, h => by
    unfold wsum
    rw [wsum_one h2 n fun e he => h e (by omega)]
    by_cases e : n = d
    · subst e
      rw [h2, if_neg (Nat.lt_irrefl _), if_pos (Nat.lt_succ_self _)]
      simp
    · rw [h n (by omega) e]
      by_cases h3 : d < n
      · rw [if_pos h3, if_pos (by omega)]; omega
      · rw [if_neg h3, if_neg (by omega)]; omega
def tot (F : Nat → Int) : Nat → Int
  | 0 => 0
  | n + 1 => tot F n + F n
theorem tot_congr {F G : Nat → Int} : ∀ n, (∀ j, j < n → F j = G j) → tot F n = tot G n
  | 0, _ => rfl
  | n + 1, h => by unfold tot; rw [tot_congr n fun j hj => h j (by omega), h n (by omega)]
theorem tot_one {F G : Nat → Int} {i : Nat} {v : Int} (h2 : G i = F i + v) : ∀ n, (∀ j, j < n → j ≠ i → G j = F j) → tot G n = tot F n + if i < n then v else 0
  | 0, _ => by simp [tot]
  | n + 1, h => by
    unfold tot
    rw [tot_one h2 n fun j hj => h j (by omega)]
    by_cases e : n = i
    · subst e
      rw [h2, if_neg (Nat.lt_irrefl _), if_pos (Nat.lt_succ_self _)]
      omega
    · rw [h n (by omega) e]
      by_cases h3 : i < n
      · rw [if_pos h3, if_pos (by omega)]; omega
      · rw [if_neg h3, if_neg (by omega)]; omega
/-- The weight of a cell. -/
def cw (K : Nat) (v : Nat → Int) (c : Nat) : Int := wsum v (bit c) K
theorem cw_outS {K W H : Nat} {r f : Nat → Nat} {v : Nat → Int} {k d j : Nat} : cw K v (outS K W H r f k d j) = wsum v (don K W H r f k d j) K :=
  wsum_congr K fun e he => bit_sumB don_le K e he
theorem keeps_d {K W H : Nat} {f : Nat → Nat} {v : Nat → Int} {k : Nat} (h : Ok K W H) (hk : k < W * H) : ∀ d, d ≤ K →
    tot (fun j => cw K v (outS K W H id f k d j)) (W * H) = tot (fun j => cw K v (outS K W H id f k 0 j)) (W * H) + wsum v (bit (f k)) d
  | 0, _ => by simp [wsum]
  | d + 1, hd => by
    rw [tot_one (F := fun j => cw K v (outS K W H id f k d j)) (i := nxt K W H k d) (v := (bit (f k) d : Int) * v d) ?_ (W * H) fun j hj hne => ?_, if_pos (nxt_lt h), keeps_d h hk d (by omega)]
    · show _ + _ + _ = _ + (_ + _)
      omega
    · (try dsimp only)
      rw [cw_outS, cw_outS, wsum_one (d := d) (b := don K W H id f k d (nxt K W H k d)) (don_at h (ord_id K) hk (by omega)) K fun e he hne => don_else h (ord_id K) hk (nxt_lt h) (by omega) he fun x => hne x.2, if_pos (by omega)]
      have := don_next (f := f) h (ord_id K) hk (show d < K by omega)
      simp only [id] at this
      rw [this]
    · (try dsimp only)
      rw [outS_else h (ord_id K) hk hj (by omega) hne]
theorem keeps_k {K W H : Nat} {f : Nat → Nat} {v : Nat → Int} (h : Ok K W H) : ∀ k, k ≤ W * H → tot (fun j => cw K v (outS K W H id f k 0 j)) (W * H) = tot (fun i => cw K v (f i)) k
  | 0, _ => by
    have : ∀ n, tot (fun j => cw K v (outS K W H id f 0 0 j)) n = 0 := fun n => by
      induction n with
      | zero => rfl
      | succ n ih =>
        unfold tot
        rw [ih, outS_zero]
        have : ∀ m, wsum v (bit 0) m = 0 := fun m => by
          induction m with
          | zero => rfl
          | succ m ih => unfold wsum; rw [ih]; simp [bit]
        unfold cw
        rw [this]; rfl
    exact this _
  | k + 1, hk => by
    have h1 := keeps_d (f := f) (v := v) h (show k < W * H by omega) K (Nat.le_refl _)
    rw [keeps_k h k (by omega)] at h1
    rw [tot_congr (W * H) fun j _ => by rw [← outS_cell (ord_id K)], h1]
    rfl
theorem keeps_one {K W H : Nat} {f : Nat → Nat} {v : Nat → Int} (h : Ok K W H) : tot (fun j => cw K v (all1 K W H id f j)) (W * H) = tot (fun i => cw K v (f i)) (W * H) := by
  refine Eq.trans (tot_congr _ fun j _ => ?_) (keeps_k (f := f) h (W * H) (Nat.le_refl _))
  rw [outS_all h]

/-! ### meeting -/
def met (K c coin : Nat) : Nat :=
  if K = 4 then (if c = 5 then 10 else if c = 10 then 5 else c)
  else if c = 21 then 42 else if c = 42 then 21
  else if c = 9 then (if coin = 1 then 18 else 36)
  else if c = 18 then (if coin = 1 then 36 else 9)
  else if c = 36 then (if coin = 1 then 9 else 18)
  else c
def vR (K d : Nat) : Int := if K = 4 then [1, 0, -1, 0].getD d 0 else [1, 0, -1, -1, 0, 1].getD d 0
def vU (K d : Nat) : Int := if K = 4 then [0, 1, 0, -1].getD d 0 else [0, 1, 1, 0, -1, -1].getD d 0
def v1 (d : Nat) : Int := 1
theorem met_lt4 {c coin : Nat} (hc : c < 16) : met 4 c coin < 16 := by
  unfold met; rw [if_pos rfl]; split
  · omega
  · split <;> omega
theorem met_lt6 {c coin : Nat} (hc : c < 64) : met 6 c coin < 64 := by
  unfold met; rw [if_neg (by omega)]
  repeat' split
  all_goals omega
theorem met_lt {K W H c coin : Nat} (h : Ok K W H) (hc : c < 2 ^ K) : met K c coin < 2 ^ K := by
  rcases h.k with rfl | ⟨rfl, _⟩
  · exact met_lt4 hc
  · exact met_lt6 hc
theorem met_coin {c a b : Nat} : met 4 c a = met 4 c b := by unfold met; rfl
theorem fin4 : ∀ c, c < 16 → cw 4 v1 (met 4 c 0) = cw 4 v1 c ∧ cw 4 (vR 4) (met 4 c 0) = cw 4 (vR 4) c ∧ cw 4 (vU 4) (met 4 c 0) = cw 4 (vU 4) c := by decide +kernel
theorem fin6 : ∀ c, c < 64 → ∀ o, o < 2 → cw 6 v1 (met 6 c o) = cw 6 v1 c ∧ cw 6 (vR 6) (met 6 c o) = cw 6 (vR 6) c ∧ cw 6 (vU 6) (met 6 c o) = cw 6 (vU 6) c := by decide +kernel
theorem met_keeps {K W H c o : Nat} (h : Ok K W H) (hc : c < 2 ^ K) (ho : o < 2) : cw K v1 (met K c o) = cw K v1 c ∧ cw K (vR K) (met K c o) = cw K (vR K) c ∧ cw K (vU K) (met K c o) = cw K (vU K) c := by
  rcases h.k with rfl | ⟨rfl, _⟩
  · rw [met_coin (b := 0)]; exact fin4 c hc
  · exact fin6 c hc o ho

/-! ### runs -/
def step1 (K W H : Nat) (coin c : Nat → Nat) : Nat → Nat := all1 K W H id fun k => met K (c k) (coin k)
def runG (K W H : Nat) (coin : Nat → Nat → Nat) (c : Nat → Nat) : Nat → Nat → Nat
  | 0 => c
  | s + 1 => step1 K W H (coin s) (runG K W H coin c s)
theorem runG_next {K W H : Nat} {coin : Nat → Nat → Nat} {c : Nat → Nat} (s : Nat) : runG K W H coin c (s + 1) = all1 K W H id fun k => met K (runG K W H coin c s k) (coin s k) := rfl
theorem runG_lt {K W H : Nat} {coin : Nat → Nat → Nat} {c : Nat → Nat} (hc : ∀ k, c k < 2 ^ K) : ∀ s k, runG K W H coin c s k < 2 ^ K
  | 0, k => hc k
  | s + 1, k => by rw [runG_next]; exact all1_lt
theorem runG_keeps {K W H : Nat} {coin : Nat → Nat → Nat} {c : Nat → Nat} (h : Ok K W H) (hc : ∀ k, c k < 2 ^ K) (ho : ∀ s k, coin s k < 2) (v : Nat → Int) (hv : ∀ x o, x < 2 ^ K → o < 2 → cw K v (met K x o) = cw K v x) :
    ∀ s, tot (fun j => cw K v (runG K W H coin c s j)) (W * H) = tot (fun j => cw K v (c j)) (W * H)
  | 0 => rfl
  | s + 1 => by
    have h1 := runG_keeps h hc ho v hv s
    rw [runG_next]
    refine (keeps_one h).trans (Eq.trans (tot_congr _ fun j _ => ?_) h1)
    exact hv _ _ (runG_lt hc s j) (ho s j)
/-- All turned round. -/
def trn (K W H : Nat) (c : Nat → Nat) : Nat → Nat := all1 K W H (opp K) c
theorem runG_congr {K W H : Nat} {coin coin' : Nat → Nat → Nat} {c d : Nat → Nat} (h : Ok K W H) (hc : ∀ k, k < W * H → c k = d k) (ho : ∀ s k, k < W * H → ∀ x, met K x (coin s k) = met K x (coin' s k)) :
    ∀ s k, k < W * H → runG K W H coin c s k = runG K W H coin' d s k
  | 0, k, hk => hc k hk
  | s + 1, k, hk => by
    rw [runG_next, runG_next]
    exact all1_congr h (fun i hi => by rw [runG_congr h hc ho s i hi]; exact ho s i hi _) k
def rev4 (m : Nat) : Nat := sumB (fun o => bit m (opp 4 o)) 4
theorem fin_rev : ∀ c, c < 16 → met 4 (rev4 (met 4 c 0)) 0 = rev4 c := by decide +kernel
theorem trn_one {W H : Nat} {g : Nat → Nat} {j : Nat} (h : Ok 4 W H) (hj : j < W * H) : trn 4 W H (all1 4 W H id g) j = rev4 (g j) := sumB_congr 4 fun o ho => by
  have h1 : bit (all1 4 W H id g (pre 4 W H j o)) (opp 4 o) = bit (g (pre 4 W H (pre 4 W H j o) (opp 4 o))) (opp 4 o) := bit_sumB (fun e => bit_le _ _) 4 _ (opp_lt h ho)
  rw [h1]
  have h2 : pre 4 W H (pre 4 W H j o) (opp 4 o) = j := by
    unfold pre
    rw [opp_opp h ho]
    exact nxt_opp2 h hj ho
  rw [h2]
theorem back_one {W H : Nat} {coin coin' c : Nat → Nat} {j : Nat} (h : Ok 4 W H) (hc : ∀ k, c k < 16) (hj : j < W * H) : step1 4 W H coin (trn 4 W H (step1 4 W H coin' c)) j = trn 4 W H c j := by
  refine sumB_congr 4 fun e he => ?_
  dsimp only [id]
  rw [show trn 4 W H (step1 4 W H coin' c) (pre 4 W H j e) = rev4 (met 4 (c (pre 4 W H j e)) (coin' (pre 4 W H j e))) from trn_one h (pre_lt h), met_coin (a := coin' _) (b := 0), met_coin (b := 0), fin_rev _ (hc _)]
  exact bit_sumB (b := fun o => bit (c (pre 4 W H j e)) (opp 4 o)) (fun e => bit_le _ _) 4 e he
theorem trn_trn {W H : Nat} {c : Nat → Nat} {j : Nat} (h : Ok 4 W H) (hc : ∀ k, c k < 16) (hj : j < W * H) : trn 4 W H (trn 4 W H c) j = c j := by
  rw [← sumB_bit 4 (c j) (hc j)]
  refine sumB_congr 4 fun o ho => ?_
  have h1 : bit (trn 4 W H c (pre 4 W H j o)) (opp 4 o) = bit (c (pre 4 W H (pre 4 W H j o) (opp 4 o))) (opp 4 (opp 4 o)) := bit_sumB (fun e => bit_le _ _) 4 _ (opp_lt h ho)
  have h2 : pre 4 W H (pre 4 W H j o) (opp 4 o) = j := by
    unfold pre
    rw [opp_opp h ho]
    exact nxt_opp2 h hj ho
  rw [h1, h2, opp_opp h ho]
theorem runG_first {W H : Nat} {coin coin' : Nat → Nat → Nat} {c : Nat → Nat} (h : Ok 4 W H) : ∀ s k, k < W * H → runG 4 W H coin c (s + 1) k = runG 4 W H coin (step1 4 W H (coin' 0) c) s k
  | 0, k, hk => by
    rw [runG_next]
    show _ = all1 4 W H id (fun k => met 4 (c k) (coin' 0 k)) k
    exact all1_congr h (fun i hi => met_coin) k
  | s + 1, k, hk => by
    have h1 := fun i hi => runG_first (coin := coin) (coin' := coin') (c := c) h s i hi
    rw [runG_next (s + 1), runG_next (c := step1 4 W H (coin' 0) c) s]
    exact all1_congr h (fun i hi => by rw [h1 i hi]; exact met_coin) k
/-- All comes back. -/
theorem back_run {W H : Nat} {coin : Nat → Nat → Nat} (h : Ok 4 W H) : ∀ (s : Nat) (c : Nat → Nat), (∀ k, c k < 16) → ∀ j, j < W * H → runG 4 W H coin (trn 4 W H (runG 4 W H coin c s)) s j = trn 4 W H c j
  | 0, c, hc, j, hj => rfl
  | s + 1, c, hc, j, hj => by
    have h2 : ∀ k, k < W * H → step1 4 W H (coin 0) (trn 4 W H (runG 4 W H coin c (s + 1))) k = trn 4 W H (runG 4 W H coin c s) k := fun k hk => back_one (coin' := coin s) h (runG_lt (K := 4) hc s) hk
    rw [runG_first (coin' := coin) h s j hj]
    exact (runG_congr h h2 (fun _ _ _ _ => rfl) s j hj).trans (back_run h s c hc j hj)
theorem all_back {W H : Nat} {coin : Nat → Nat → Nat} {c : Nat → Nat} (h : Ok 4 W H) (hc : ∀ k, c k < 16) (s : Nat) {j : Nat} (hj : j < W * H) : trn 4 W H (runG 4 W H coin (trn 4 W H (runG 4 W H coin c s)) s) j = c j := by
  have h1 : trn 4 W H (runG 4 W H coin (trn 4 W H (runG 4 W H coin c s)) s) j = trn 4 W H (trn 4 W H c) j := all1_congr h (fun k hk => back_run h s c hc k hk) j
  rw [h1]
  exact trn_trn h hc hj
end Gs
end Go.Proofs.YtekoldebcihdoaaDoor
