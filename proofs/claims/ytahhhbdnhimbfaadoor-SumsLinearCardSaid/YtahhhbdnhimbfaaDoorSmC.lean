/- PLAIN: far steps counted from the left; no program in sight. -/
import Derived.Test.YtahhhbdnhimbfaaDoorSmU
namespace Go.Proofs.YtahhhbdnhimbfaaDoor
set_option linter.unusedSimpArgs false
set_option linter.unusedVariables false
open Go.RowKit
namespace Ln
namespace Sm

/-- How much of each cell to the right is added. -/
def corr (n : Nat) (b v : Nat → Nat) (j : Nat) : Nat := sumN (fun k => b k * v ((j + k) % n)) n
theorem corr_congr {n : Nat} {b b' v v' : Nat → Nat} {j : Nat} (hn : 0 < n) (hb : ∀ i, i < n → b i = b' i) (hv : ∀ i, i < n → v i = v' i) : corr n b v j = corr n b' v' j := by
  unfold corr
  refine sumN_congr fun i hi => ?_
  rw [hb i hi, hv _ (Nat.mod_lt _ hn)]
theorem corr_modl {n m : Nat} {b v : Nat → Nat} {j : Nat} : corr n (fun i => b i % m) v j % m = corr n b v j % m := by
  unfold corr
  refine sumN_modc fun i _ => ?_
  rw [Nat.mul_mod, Nat.mod_mod, ← Nat.mul_mod]
theorem corr_modr {n m : Nat} {b v : Nat → Nat} {j : Nat} : corr n b (fun i => v i % m) j % m = corr n b v j % m := by
  unfold corr
  refine sumN_modc fun i _ => ?_
  rw [Nat.mul_mod, Nat.mod_mod, ← Nat.mul_mod]
theorem corr_conv {n : Nat} {b c v : Nat → Nat} {k : Nat} (hn : 0 < n) : corr n (conv n b c) v k = corr n b (corr n c v) k := by
  have e1 : corr n (conv n b c) v k = sumN (fun a => sumN (fun h => sumN (fun m => if (a + h) % n = m then b a * c h * v ((k + m) % n) else 0) n) n) n := by
    unfold corr conv
    have e0 : (fun m => sumN (fun a => sumN (fun h => if (a + h) % n = m then b a * c h else 0) n) n * v ((k + m) % n)) = fun m => sumN (fun a => sumN (fun h => if (a + h) % n = m then b a * c h * v ((k + m) % n) else 0) n) n := by
      funext m
      rw [sumN_mulr]
      refine sumN_congr fun a _ => ?_
      rw [sumN_mulr]
      refine sumN_congr fun h _ => ?_
      split
      · rfl
      · exact Nat.zero_mul _
    rw [e0, sumN_swap]
    refine sumN_congr fun a _ => ?_
    rw [sumN_swap]
  rw [e1]
  unfold corr
  refine sumN_congr fun a _ => ?_
  rw [sumN_mull]
  refine sumN_congr fun h _ => ?_
  rw [sumN_pick (F := fun m => b a * c h * v ((k + m) % n)), if_pos (Nat.mod_lt _ hn), Nat.mul_assoc]
  congr 3
  rw [Nat.add_mod_mod, Nat.mod_add_mod, Nat.add_assoc]
/-- A sum's numbers, each at its place to the right. -/
def polyR (n R w : Nat) (c : Nat → Nat) (k : Nat) : Nat := sumN (fun i => if ix n R i = k then c i else 0) w
theorem corr_poly {n R w : Nat} {c v : Nat → Nat} {k : Nat} (hn : 0 < n) : corr n (polyR n R w c) v k = sumN (fun i => c i * v (ix n R (k + i))) w := by
  unfold corr polyR
  have e0 : (fun m => sumN (fun i => if ix n R i = m then c i else 0) w * v ((k + m) % n)) = fun m => sumN (fun i => if ix n R i = m then c i * v ((k + m) % n) else 0) w := by
    funext m
    rw [sumN_mulr]
    refine sumN_congr fun i _ => ?_
    split
    · rfl
    · exact Nat.zero_mul _
  rw [e0, sumN_swap]
  refine sumN_congr fun i _ => ?_
  rw [sumN_pick (F := fun m => c i * v ((k + m) % n)), if_pos (ix_lt hn)]
  congr 2
  have h2 := le_mul (R := R) hn
  unfold ix
  rw [Nat.add_mod_mod]
  congr 1
  omega
/-- Numbers that do so many steps. -/
def DoesR (t : Nat → Nat) (st R n : Nat) (b : Nat → Nat) (e : Nat) : Prop := ∀ v : Nat → Nat, (∀ i, v i < st) → ∀ k, k < n → corr n b v k % st = go t st R n v e k
theorem doesR_one {t c : Nat → Nat} {st R n : Nat} (hs : SumR t st R c) (hn : 0 < n) : DoesR t st R n (fun k => polyR n R (2 * R + 1) c k % st) 1 := fun v hv k hk => by
  rw [corr_modl, corr_poly hn]
  show _ = stp t st R n (go t st R n v 0) k
  unfold stp
  rw [hs (fun j => go t st R n v 0 (ix n R (k + j))) (fun j => hv _)]
  rfl
theorem doesR_congr {t : Nat → Nat} {st R n e : Nat} {b b' : Nat → Nat} (hn : 0 < n) (h : DoesR t st R n b e) (hb : ∀ i, i < n → b i = b' i) : DoesR t st R n b' e := fun v hv k hk => by
  rw [← corr_congr hn hb fun _ _ => rfl]
  exact h v hv k hk
theorem doesR_comp {t v : Nat → Nat} {st R n d e : Nat} {b w : Nat → Nat} (hn : 0 < n) (hw : ∀ i, w i < st) (hb : DoesR t st R n b e) (h : ∀ i, i < n → w i = go t st R n v d i) (k : Nat) (hk : k < n) : corr n b w k % st = go t st R n v (d + e) k := by
  rw [hb w hw k hk, go_add]
  exact go_congr hn h e k hk
theorem doesR_twice {t : Nat → Nat} {st R n e : Nat} {b : Nat → Nat} (hn : 0 < n) (hst : 0 < st) (ht : ∀ k, t k < st) (hb : DoesR t st R n b e) : DoesR t st R n (fun k => conv n b b k % st) (2 * e) := fun v hv k hk => by
  rw [corr_modl, corr_conv hn, ← corr_modr]
  have := doesR_comp (d := e) (w := fun i => corr n b v i % st) hn (fun i => Nat.mod_lt _ hst) hb (fun i hi => hb v hv i hi) k hk
  rw [this, show e + e = 2 * e from by omega]
/-- The next word, as far as it has come. -/
def nxtF (n st : Nat) (b v : Nat → Nat) (j k i : Nat) : Nat := if i < j then corr n b v i % st else if i = j then sumN (fun k => b k * v ((j + k) % n)) k % st else 0
theorem nxtF_zero (n st : Nat) (b v : Nat → Nat) (i : Nat) : nxtF n st b v 0 0 i = 0 := by
  unfold nxtF
  rw [if_neg (by omega)]
  split
  · exact Nat.zero_mod _
  · rfl
theorem nxtF_row (n st : Nat) (b v : Nat → Nat) (j i : Nat) : nxtF n st b v j n i = nxtF n st b v (j + 1) 0 i := by
  unfold nxtF
  rcases Nat.lt_trichotomy i j with h | h | h
  · rw [if_pos h, if_pos (by omega)]
  · subst h; rw [if_neg (by omega), if_pos rfl, if_pos (by omega)]; rfl
  · rw [if_neg (by omega), if_neg (by omega), if_neg (by omega)]
    split
    · exact (Nat.zero_mod _).symm
    · rfl
theorem nxtF_at (n st : Nat) (b v : Nat → Nat) (j k : Nat) : nxtF n st b v j k j = sumN (fun k => b k * v ((j + k) % n)) k % st := by
  unfold nxtF
  rw [if_neg (by omega), if_pos rfl]
theorem nxtF_next (n st : Nat) (b v : Nat → Nat) (j k : Nat) : nxtF n st b v j (k + 1) j = (nxtF n st b v j k j + b k * v ((j + k) % n)) % st := by
  rw [nxtF_at, nxtF_at, Nat.mod_add_mod]
  rfl
theorem nxtF_other {n st : Nat} {b v : Nat → Nat} {j k k' i : Nat} (h : i ≠ j) : nxtF n st b v j k i = nxtF n st b v j k' i := by
  unfold nxtF
  rw [if_neg h, if_neg h]
theorem nxtF_all {n st : Nat} {b v : Nat → Nat} {i : Nat} (h : i < n) : nxtF n st b v n 0 i = corr n b v i % st := by
  unfold nxtF
  rw [if_pos h]
def partR (n R : Nat) (c : Nat → Nat) (m k : Nat) : Nat := sumN (fun i => if ix n R i = k then c i else 0) m
theorem partR_next (n R : Nat) (c : Nat → Nat) (m k : Nat) : partR n R c (m + 1) k = partR n R c m k + (if ix n R m = k then c m else 0) := rfl
/-- A place to the right, by Go's rest. -/
theorem ix_tmod2 {n R i : Nat} (h : 0 < n) : ∃ q : Int, ((i : Int) - (R : Int)).tmod (n : Int) = q ∧ -(n : Int) < q ∧ q < n ∧ (q < 0 → q + (n : Int) = ((ix n R i : Nat) : Int)) ∧ (0 ≤ q → q = ((ix n R i : Nat) : Int)) := by
  have hk := ix_lt (R := R) (j := i) h
  obtain ⟨q, hq1, hq2, hq3, hq4⟩ := ix_tmod (n := n) (R := R) (j := i) h
  refine ⟨q, hq1, ?_, hq3, fun h0 => ?_, fun h0 => ?_⟩
  · rw [← hq1]
    exact Int.neg_lt_of_neg_lt (by
      have := Int.tmod_lt_of_pos (-((i : Int) - (R : Int))) (show (0 : Int) < n by omega)
      rw [Int.neg_tmod] at this
      exact this)
  · rw [← hq4]
    have hgt : -(n : Int) < q := by
      rw [← hq1]
      exact Int.neg_lt_of_neg_lt (by
        have := Int.tmod_lt_of_pos (-((i : Int) - (R : Int))) (show (0 : Int) < n by omega)
        rw [Int.neg_tmod] at this
        exact this)
    exact (Int.tmod_eq_of_lt (by omega) (by omega)).symm
  · rw [← hq4]
    have e : (q + (n : Int)).tmod (n : Int) = q.tmod (n : Int) := by
      rw [Int.tmod_eq_emod_of_nonneg (by omega), Int.tmod_eq_emod_of_nonneg h0, Int.add_emod_right]
    rw [e]
    exact (Int.tmod_eq_of_lt h0 hq3).symm
end Sm
end Ln
end Go.Proofs.YtahhhbdnhimbfaaDoor
