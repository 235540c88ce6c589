/- WALK: pattern.quarter. -/
import Derived.Test.YthipeeagpllfeaaDoorPnV
namespace Go.Proofs.YthipeeagpllfeaaDoor
set_option linter.unusedSimpArgs false
set_option linter.unusedVariables false
open Go.RowKit
namespace Pn
open Tld Mem Bl

theorem mk_ints (P : Nat) (hP : P ≤ 1000000) (w : World) : (Instr.makeSlice 22 (.int .i64 (P : Int)) (.int .i64 (P : Int))).run Tryd.prog w = .ok (.slice (some ⟨w.heap.size, 0, none⟩) P P) (w.alloc (.cells (Array.replicate P (Value.int .i64 0)) 3)) := by
  obtain ⟨i0, hI0, hz0, hz1, hz2⟩ := info_parts infoIntV
  have hr := run_make (P := Tryd.prog) w 22 3 i0 (.int .i64 0) Tryd.underlying22 hI0 hz0 .i64 .i64 P P (by omega) (Int.le_refl _) (by rw [hz2]; omega) (by omega)
  rw [Int.toNat_natCast, hz1, Nat.mul_one, Ops.madeCells_one (.int .i64 0) rfl, List.toArray_replicate] at hr
  exact hr
theorem wr_in {z : Int} (h0 : -1000000 ≤ z) (h1 : z ≤ 1000000) : wrap64 z = z := by unfold wrap64; omega
def noPat : List Value := [.int .i64 0, .int .i64 0, .slice none 0 0]
theorem noPat_one : ∀ v ∈ noPat, v.oneCell' = true := by simp [noPat, Value.oneCell']
/-- So much of a quarter's turn is written. -/
def qpart (H : Nat) (f : Nat → Nat → Nat) (r c k : Nat) : Nat := if H - 1 - k % H < r ∨ (H - 1 - k % H = r ∧ k / H < c) then f (k / H) (H - 1 - k % H) else 0
theorem qpart_zero {H k : Nat} {f : Nat → Nat → Nat} : qpart H f 0 0 k = 0 := by
  unfold qpart
  exact if_neg (fun h => h.elim (fun h => absurd h (Nat.not_lt_zero _)) (fun h => absurd h.2 (Nat.not_lt_zero _)))

theorem wr_nat {z : Int} {k : Nat} (h : z = (k : Int)) (hk : k ≤ 1000000) : wrap64 z = (k : Int) := by rw [h]; unfold wrap64; omega
theorem wr_same {z k : Int} (h : wrap64 z = k) : IntKind.i64.wrap z = k := by rw [IntKind.wrap_i64]; unfold wrap64 at h; exact h
theorem qpart_else {H r cc k j : Nat} {f : Nat → Nat → Nat} (hrH : r < H) (hj : j = cc * H + (H - 1 - r)) (hne : k ≠ j) : qpart H f r (cc + 1) k = qpart H f r cc k := by
  unfold qpart
  have h0 : ¬ (H - 1 - k % H = r ∧ k / H = cc) := fun ⟨e1, e2⟩ => hne (by
    have hkm := Nat.mod_lt k (show 0 < H by omega)
    have h3 := Nat.div_add_mod k H
    rw [e2, Nat.mul_comm] at h3
    omega)
  by_cases hk1 : H - 1 - k % H < r ∨ (H - 1 - k % H = r ∧ k / H < cc)
  · rw [if_pos hk1, if_pos (by omega)]
  · rw [if_neg hk1, if_neg (by omega)]
theorem qpart_hit {H r cc j : Nat} {f : Nat → Nat → Nat} (hrH : r < H) (hjm : j % H = H - 1 - r) (hjd : j / H = cc) : qpart H f r (cc + 1) j = f cc r := by
  unfold qpart
  rw [hjm, hjd, if_pos (by omega)]
  congr 1
  omega
theorem qpart_row {W H r k : Nat} {f : Nat → Nat → Nat} (hk : k < W * H) : qpart H f (r + 1) 0 k = qpart H f r W k := by
  have : k / H < W := by
    rcases Nat.eq_zero_or_pos H with h | h
    · rw [h, Nat.mul_zero] at hk; omega
    · exact (Nat.div_lt_iff_lt_mul h).2 hk
  unfold qpart
  generalize k / H = d at *
  generalize k % H = e at *
  by_cases hk1 : H - 1 - e < r ∨ (H - 1 - e = r ∧ d < W)
  · rw [if_pos hk1, if_pos (by omega)]
  · rw [if_neg hk1, if_neg (by omega)]
/-- The numbers of a cell's step. -/
theorem cell_nums {r cc W H n : Nat} (hr : r < H) (hc : cc < W) (hn : n = W * H) (hn2 : n ≤ 40000) :
    ∃ q m m2 m3 i j : Nat, i = r * W + cc ∧ j = cc * H + (H - 1 - r) ∧ i < n ∧ j < n ∧ j % H = H - 1 - r ∧ j / H = cc ∧ wrap64 ((r : Int) * (W : Int)) = (q : Int) ∧ wrap64 ((cc : Int) * (H : Int)) = (m : Int) ∧
      wrap64 ((q : Int) + (cc : Int)) = (i : Int) ∧ wrap64 ((m : Int) + (H : Int)) = (m2 : Int) ∧ wrap64 ((m2 : Int) - 1) = (m3 : Int) ∧ wrap64 ((m3 : Int) - (r : Int)) = (j : Int) := by
  have hin : r * W + cc < n := by rw [hn]; exact at_lt hc hr
  have hjn : cc * H + (H - 1 - r) < n := by rw [hn, Nat.mul_comm W H]; exact at_lt (show H - 1 - r < H by omega) hc
  have hjm : (cc * H + (H - 1 - r)) % H = H - 1 - r := at_mod (by omega)
  have hjd : (cc * H + (H - 1 - r)) / H = cc := at_div (by omega)
  have hH2 : H ≤ n := by rw [hn]; exact Nat.le_mul_of_pos_left H (by omega)
  have e1 : (r : Int) * (W : Int) = ((r * W : Nat) : Int) := by push_cast; rfl
  have e2 : (cc : Int) * (H : Int) = ((cc * H : Nat) : Int) := by push_cast; rfl
  refine ⟨r * W, cc * H, cc * H + H, cc * H + H - 1, r * W + cc, cc * H + (H - 1 - r), rfl, rfl, hin, hjn, hjm, hjd, ?_, ?_, ?_, ?_, ?_, ?_⟩
  · exact wr_nat e1 (by omega)
  · exact wr_nat e2 (by omega)
  · clear hjm hjd e1 e2 hn
    generalize r * W = q at *
    generalize cc * H = m at *
    exact wr_nat (by omega) (by omega)
  · clear hjm hjd e1 e2 hn
    generalize r * W = q at *
    generalize cc * H = m at *
    exact wr_nat (by omega) (by omega)
  · clear hjm hjd e1 e2 hn
    generalize r * W = q at *
    generalize cc * H = m at *
    exact wr_nat (by omega) (by omega)
  · clear hjm hjd e1 e2 hn
    generalize r * W = q at *
    generalize cc * H = m at *
    exact wr_nat (by omega) (by omega)
theorem qpart_all {H k : Nat} {f : Nat → Nat → Nat} (hH : 0 < H) : quart H f (k % H) (k / H) = qpart H f H 0 k := by
  unfold qpart quart
  rw [if_pos (by omega)]

end Pn
end Go.Proofs.YthipeeagpllfeaaDoor
