/- WALK: pattern.turned. -/
import Derived.Test.YthipeeagpllfeaaDoorPnQ
import Derived.Test.YthipeeagpllfeaaDoorShelf
namespace Go.Proofs.YthipeeagpllfeaaDoor
set_option linter.unusedSimpArgs false
set_option linter.unusedVariables false
open Go.RowKit
namespace Pn
open Tld Mem Bl

/-- A stretch of a row is turned about. -/
def revAt (i0 W : Nat) (F : Nat → Nat) (k : Nat) : Nat := if i0 ≤ k ∧ k < i0 + W then F (i0 + (W - 1 - (k - i0))) else F k
theorem own_slice {w : World} {B n : Nat} {v : Value} {zs : List Int} {F : Nat → Nat} (h : w.ownsRow B 3 1 v n (zs.map (Value.int .i64))) (hz : ∀ k, k < n → (zs.map (Value.int .i64))[k]? = some (.int .i64 (F k : Nat))) :
    ∃ a c g, v = .slice a n c ∧ n ≤ c ∧ c ≤ maxLen ∧ ((a = none ∧ n = 0) ∨ (a = some ⟨g, 0, none⟩ ∧ B ≤ g ∧ Vec w g n F)) := by
  rcases h.2 with ⟨rfl, h0⟩ | ⟨g, cap, cur, rfl, hB, hg, hnc, hcm, hcs, ht⟩
  · subst h0
    exact ⟨none, 0, 0, rfl, Nat.le_refl _, Nat.zero_le _, .inl ⟨rfl, rfl⟩⟩
  · refine ⟨_, _, g, rfl, hnc, hcm, .inr ⟨rfl, hB, ⟨⟨cur.toList, ?_, fun k hk => ?_⟩⟩⟩⟩
    · unfold Row
      simpa using hg
    · rw [← hz k hk, ← ht, List.getElem?_take_of_lt (by omega)]
/-- So many rows are mirrored. -/
def mpart (W : Nat) (f : Nat → Nat → Nat) (r k : Nat) : Nat := if k / W < r then f (W - 1 - k % W) (k / W) else f (k % W) (k / W)
theorem mpart_row {W H r k : Nat} {f : Nat → Nat → Nat} (hr : r < H) (hk : k < W * H) : mpart W f (r + 1) k = revAt (r * W) W (mpart W f r) k := by
  have hW : 0 < W := by
    rcases Nat.eq_zero_or_pos W with h | h
    · rw [h, Nat.zero_mul] at hk; omega
    · exact h
  have h1 := Nat.div_add_mod k W
  have h2 := Nat.mod_lt k hW
  unfold revAt
  by_cases h : r * W ≤ k ∧ k < r * W + W
  · rw [if_pos h]
    have e1 : k / W = r := by
      have a1 : r ≤ k / W := (Nat.le_div_iff_mul_le hW).2 h.1
      have a2 : k / W < r + 1 := (Nat.div_lt_iff_lt_mul hW).2 (by rw [Nat.succ_mul]; exact h.2)
      omega
    have e2 : k = r * W + k % W := by rw [e1, Nat.mul_comm] at h1; omega
    have e3 : r * W + (W - 1 - (k - r * W)) = r * W + (W - 1 - k % W) := by omega
    rw [e3]
    unfold mpart
    rw [at_div (show W - 1 - k % W < W by omega), at_mod (show W - 1 - k % W < W by omega), e1, if_pos (Nat.lt_succ_self r), if_neg (Nat.lt_irrefl r)]
  · rw [if_neg h]
    have e1 : k / W ≠ r := fun e => h (by rw [e, Nat.mul_comm] at h1; omega)
    unfold mpart
    by_cases h3 : k / W < r
    · rw [if_pos h3, if_pos (by omega)]
    · rw [if_neg h3, if_neg (by omega)]
theorem mpart_zero {W k : Nat} {f : Nat → Nat → Nat} : mpart W f 0 k = f (k % W) (k / W) := if_neg (Nat.not_lt_zero _)
theorem mpart_all {W H k : Nat} {f : Nat → Nat → Nat} (hk : k < W * H) : mpart W f H k = mir W f (k % W) (k / W) := by
  unfold mpart mir
  rw [if_pos (Nat.div_lt_of_lt_mul hk)]
theorem seg_nums {r W H n c : Nat} (hr : r < H) (hn : n = W * H) (hn2 : n ≤ 40000) (hH : H ≤ 200) (hc : n ≤ c) :
    ∃ r1 lo hi : Nat, r1 = r + 1 ∧ lo = r * W ∧ lo + W ≤ n ∧ lo ≤ hi ∧ hi - lo = W ∧ hi ≤ c ∧ (0 < W → ¬ c = lo) ∧ wrap64 ((r : Int) + 1) = (r1 : Int) ∧ wrap64 ((r : Int) * (W : Int)) = (lo : Int) ∧ wrap64 ((r1 : Int) * (W : Int)) = (hi : Int) := by
  have h1 : (r + 1) * W ≤ H * W := Nat.mul_le_mul_right W hr
  rw [Nat.succ_mul, Nat.mul_comm H W, ← hn] at h1
  have e2 : ((r + 1 : Nat) : Int) * (W : Int) = ((r * W + W : Nat) : Int) := by rw [← Nat.succ_mul]; push_cast; rfl
  exact ⟨r + 1, r * W, r * W + W, rfl, rfl, h1, Nat.le_add_right _ _, Nat.add_sub_cancel_left _ _, Nat.le_trans h1 hc, fun h => by omega, wr_nat (by push_cast; rfl) (by omega), wr_nat (by push_cast; rfl) (by omega), wr_nat e2 (by omega)⟩
theorem is_other {w w' : World} {a : Option Addr} {n c : Nat} {zs : List Int} (h : Ints.Is w a n zs) (o : Only c w w') (hne : ∀ b off, a = some ⟨b, off, none⟩ → b ≠ c) : Ints.Is w' a n zs :=
  ⟨h.len, fun i hi => by
    obtain ⟨b, off, e, hlt, hc⟩ := h.cells i hi
    refine ⟨b, off, e, by rw [o.size]; exact hlt, ?_⟩
    rw [← hc]
    unfold World.cell?
    rw [show (⟨b, off + i, none⟩ : Addr).block = b from rfl, o.block b (hne b off e)], h.le⟩
/-- So many quarters. -/
def qW (W H : Nat) (k : Nat) : Nat := if k % 2 = 0 then W else H
def qH (W H : Nat) (k : Nat) : Nat := if k % 2 = 0 then H else W
def qF (W H : Nat) (f : Nat → Nat → Nat) : Nat → Nat → Nat → Nat
  | 0 => f
  | k + 1 => quart (qH W H k) (qF W H f k)
theorem q_next (W H k : Nat) : qW W H (k + 1) = qH W H k ∧ qH W H (k + 1) = qW W H k := by
  unfold qW qH
  rcases Nat.mod_two_eq_zero_or_one k with h | h
  · have h2 : (k + 1) % 2 = 1 := by omega
    simp [h, h2]
  · have h2 : (k + 1) % 2 = 0 := by omega
    simp [h, h2]
theorem q_mul (W H k : Nat) : qW W H k * qH W H k = W * H := by
  unfold qW qH
  rcases Nat.mod_two_eq_zero_or_one k with h | h
  · simp [h]
  · simp [h, Nat.mul_comm]
theorem q_le {W H M : Nat} (hW : W ≤ M) (hH : H ≤ M) (k : Nat) : qW W H k ≤ M ∧ qH W H k ≤ M := by
  unfold qW qH
  split <;> exact ⟨by assumption, by assumption⟩
/-- A pattern, turned. -/
def tF (W H : Nat) (f : Nat → Nat → Nat) (k : Nat) : Nat → Nat → Nat := qF W H (if 4 ≤ k then mir W f else f) (k % 4)

end Pn
end Go.Proofs.YthipeeagpllfeaaDoor
