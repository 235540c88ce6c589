/- WALK: plane.around. -/
import Derived.Test.YtgagophijmiceaaDoorPnT
import Derived.Test.YtgagophijmiceaaDoorPnO
import Derived.Laws.CopyOwn
namespace Go.Proofs.YtgagophijmiceaaDoor
set_option linter.unusedSimpArgs false
set_option linter.unusedVariables false
open Go.RowKit
namespace Pn
open Tld Mem Bl

/-- A stretch of a row is another one. -/
def putAt (off W : Nat) (F : Nat → Nat) (f : Nat → Nat) (k : Nat) : Nat := if off ≤ k ∧ k < off + W then f (k - off) else F k
theorem vec_setRow {w : World} {g off n W : Nat} {F f : Nat → Nat} {cs vs : List Value} (hr : Row w g 3 cs) (hv : ∀ k, k < n → cs[k]? = some (.int .i64 (F k : Nat))) (hl : vs.length = W) (hvs : ∀ k, k < W → vs[k]? = some (.int .i64 (f k : Nat))) (hs : off + W ≤ n) :
    Vec (w.setRow g (cs.take off ++ vs ++ cs.drop (off + vs.length)).toArray) g n (putAt off W F f) ∧ Only g w (w.setRow g (cs.take off ++ vs ++ cs.drop (off + vs.length)).toArray) := by
  refine ⟨⟨⟨_, setRow_heap w g _ _ _ _ hr, fun k hk => ?_⟩⟩, rfl, rfl, rfl, by simp [World.setRow], fun k hk => setRow_other w g k _ hk⟩
  have hcl : n ≤ cs.length := by
    rcases Nat.lt_or_ge cs.length n with h | h
    · have := (List.getElem?_eq_some_iff.1 (hv cs.length h)).1
      omega
    · exact h
  have ht : (cs.take off).length = off := by rw [List.length_take]; omega
  unfold putAt
  by_cases h1 : k < off
  · rw [if_neg (by omega), List.append_assoc, List.getElem?_append_left (by omega), List.getElem?_take_of_lt h1]
    exact hv k hk
  · rw [List.append_assoc, List.getElem?_append_right (by omega), ht]
    by_cases h2 : k < off + W
    · rw [if_pos (by omega), List.getElem?_append_left (by omega)]
      exact hvs _ (by omega)
    · rw [if_neg (by omega), List.getElem?_append_right (by omega), List.getElem?_drop, hl, show off + W + (k - off - W) = k by omega]
      exact hv k hk
theorem wp_copy_vec {o : Oper} {a : Act} {w : World} {K : Act → World → Prop} {Q : Exit → Act → World → Prop} (d s : Operand)
    (ho : o.op = .call { callee := .builtin .copy, args := #[d, s], argTypes := #[22, 22] })
    (g off n dLen dCap sb so W sCap : Nat) (F f : Nat → Nat) (hd : a.eval d = .slice (some ⟨g, off, none⟩) dLen dCap) (hs : a.eval s = .slice (some ⟨sb, so, none⟩) W sCap)
    (hv : Vec w g n F) (hf : ∀ k, k < W → w.cell? ⟨sb, so + k, none⟩ = some (.int .i64 (f k : Nat))) (hfit : off + W ≤ n) (hdl : W ≤ dLen)
    (h : ∀ w', Vec w' g n (putAt off W F f) → Only g w w' → K (a.put o.dst (goInt W)) w') :
    Oper.wp Tryd.prog o a w K Q := by
  obtain ⟨cs, hr, hc⟩ := hv.row
  obtain ⟨vs, hvs⟩ : ∃ vs : List Value, vs = (List.range W).map fun k => Value.int .i64 (f k : Nat) := ⟨_, rfl⟩
  have hl : vs.length = W := by rw [hvs]; simp
  have hg : ∀ k, k < W → vs[k]? = some (.int .i64 (f k : Nat)) := fun k hk => by rw [hvs]; simp [List.getElem?_range hk]
  have hcl : n ≤ cs.length := by
    rcases Nat.lt_or_ge cs.length n with h | h
    · have := (List.getElem?_eq_some_iff.1 (hc cs.length h)).1
      omega
    · exact h
  have hrun := run_copy_row (P := Tryd.prog) w 22 22 o.type 3 g off dLen dCap ⟨sb, so, none⟩ W sCap cs.toArray 3 vs Tryd.underlying22 (by kernel_rfl) hr (by rw [hl]; exact (Nat.min_eq_left hdl).symm) (fun j v hj => by
    have hjW : j < W := by rw [← hl]; exact (List.getElem?_eq_some_iff.1 hj).1
    rw [hg j hjW] at hj
    rw [Addr.add_mid, ← hj]
    exact hf j hjW) (by rw [hl]; simp; omega) (fun v hv => by
    rw [hvs] at hv
    obtain ⟨k, _, rfl⟩ := List.mem_map.1 hv
    rfl)
  obtain ⟨h1, h2⟩ := vec_setRow hr hc hl hg hfit
  rw [← hl] at h
  unfold Oper.wp
  simp [execOp, ho, resolve, invoke, builtin, hd, hs, hrun, Result.andThen]
  exact h _ (by rw [hl]; simpa [hl] using h1) (by simpa [hl] using h2)

theorem around_nums {r W H n c : Nat} (hr : r < H) (hW0 : 0 < W) (hW : W ≤ 198) (hH : H ≤ 198) (hn : n = W * H) (hc : n ≤ c) :
    ∃ A D N r1 q1 off lo hi : Nat, A = W + 2 ∧ D = H + 2 ∧ N = A * D ∧ r1 = r + 1 ∧ off = (r + 1) * A + 1 ∧ off + W ≤ N ∧ off < N ∧ lo = r * W ∧ lo ≤ hi ∧ hi - lo = W ∧ hi ≤ c ∧ hi ≤ n ∧ ¬ c = lo ∧
      wrap64 ((r : Int) + 1) = (r1 : Int) ∧ wrap64 ((r1 : Int) * (A : Int)) = (q1 : Int) ∧ wrap64 ((q1 : Int) + 1) = (off : Int) ∧ wrap64 ((r : Int) * (W : Int)) = (lo : Int) ∧ wrap64 ((r1 : Int) * (W : Int)) = (hi : Int) := by
  have h1 : (r + 1) * W ≤ H * W := Nat.mul_le_mul_right W hr
  have h4 : H * W ≤ 198 * 198 := Nat.mul_le_mul hH hW
  rw [Nat.mul_comm H W, ← hn] at h1
  have h2 : (r + 1) * (W + 2) ≤ H * (W + 2) := Nat.mul_le_mul_right _ hr
  have h3 : (W + 2) * (H + 2) = H * (W + 2) + 2 * (W + 2) := by rw [Nat.mul_comm, Nat.add_mul]
  have h5 : H * (W + 2) ≤ 198 * 200 := Nat.mul_le_mul hH (by omega)
  have h6 : (r + 1) * W = r * W + W := Nat.succ_mul _ _
  rw [Nat.mul_comm H W, ← hn] at h4
  refine ⟨W + 2, H + 2, (W + 2) * (H + 2), r + 1, (r + 1) * (W + 2), (r + 1) * (W + 2) + 1, r * W, (r + 1) * W, rfl, rfl, rfl, rfl, rfl, by omega, by omega, rfl, by omega, by omega, by omega, h1, by omega, wr_nat (by push_cast; rfl) (by omega), wr_nat (by push_cast; rfl) (by omega), wr_nat (by push_cast; rfl) (by omega), wr_nat (by push_cast; rfl) (by omega), wr_nat (by push_cast; rfl) (by omega)⟩
/-- So many rows lie in their frame. -/
def apart (W H : Nat) (f : Nat → Nat → Nat) (r k : Nat) : Nat := if k / (W + 2) < r + 1 then pad W H f (k % (W + 2)) (k / (W + 2)) else 0
theorem apart_zero {W H k : Nat} {f : Nat → Nat → Nat} : apart W H f 0 k = 0 := by
  unfold apart pad
  by_cases h : k / (W + 2) < 0 + 1
  · rw [if_pos h, if_neg (by omega)]
  · rw [if_neg h]
theorem apart_row {W H r k : Nat} {f : Nat → Nat → Nat} (hr : r < H) : apart W H f (r + 1) k = putAt ((r + 1) * (W + 2) + 1) W (apart W H f r) (fun j => f j r) k := by
  have h1 := Nat.div_add_mod k (W + 2)
  have h2 := Nat.mod_lt k (show 0 < W + 2 by omega)
  unfold putAt
  by_cases h : (r + 1) * (W + 2) + 1 ≤ k ∧ k < (r + 1) * (W + 2) + 1 + W
  · rw [if_pos h]
    have e1 : k / (W + 2) = r + 1 := by
      have a1 : r + 1 ≤ k / (W + 2) := (Nat.le_div_iff_mul_le (by omega)).2 (by omega)
      have a2 : k / (W + 2) < r + 1 + 1 := (Nat.div_lt_iff_lt_mul (by omega)).2 (by rw [Nat.succ_mul (r + 1)]; omega)
      omega
    rw [e1, Nat.mul_comm] at h1
    unfold apart pad
    rw [e1, if_pos (Nat.lt_succ_self _), if_pos (by omega), Nat.add_sub_cancel]
    congr 1
    omega
  · rw [if_neg h]
    unfold apart
    by_cases h3 : k / (W + 2) < r + 1
    · rw [if_pos h3, if_pos (by omega)]
    · rw [if_neg h3]
      by_cases h4 : k / (W + 2) < r + 1 + 1
      · rw [if_pos h4]
        have e1 : k / (W + 2) = r + 1 := by omega
        rw [e1, Nat.mul_comm] at h1
        unfold pad
        rw [if_neg (by omega)]
      · rw [if_neg h4]
theorem apart_all {W H k : Nat} {f : Nat → Nat → Nat} : pad W H f (k % (W + 2)) (k / (W + 2)) = apart W H f H k := by
  unfold apart
  by_cases h : k / (W + 2) < H + 1
  · rw [if_pos h]
  · rw [if_neg h]
    unfold pad
    rw [if_neg (by omega)]

end Pn
end Go.Proofs.YtgagophijmiceaaDoor
