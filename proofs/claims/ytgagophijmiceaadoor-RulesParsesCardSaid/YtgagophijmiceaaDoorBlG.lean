/- PLAIN: a grid's numbers row by row; four of its cells put, one after the other; no program in sight. -/
import Derived.Test.YtgagophijmiceaaDoorBlPl4
import Derived.Test.YtgagophijmiceaaDoorMem
namespace Go.Proofs.YtgagophijmiceaaDoor
set_option linter.unusedSimpArgs false
set_option linter.unusedVariables false
namespace Bl
open Mem

/-- A grid's numbers, row by row. -/
def flat (W H : Nat) (c : Nat → Nat → Nat) : List Int := (List.range (W * H)).map fun k => ((c (k % W) (k / W) : Nat) : Int)
theorem flat_len {W H : Nat} {c : Nat → Nat → Nat} : (flat W H c).length = W * H := by simp [flat]
theorem flat_get {W H k : Nat} {c : Nat → Nat → Nat} (h : k < W * H) : (flat W H c).getD k 0 = ((c (k % W) (k / W) : Nat) : Int) := by
  simp [flat, List.getD_eq_getElem?_getD, List.getElem?_range h]
theorem at_lt {W H x y : Nat} (hx : x < W) (hy : y < H) : y * W + x < W * H := by
  have h : (y + 1) * W ≤ H * W := Nat.mul_le_mul_right W hy
  rw [Nat.succ_mul, Nat.mul_comm H W] at h
  omega
theorem at_mod {W x y : Nat} (hx : x < W) : (y * W + x) % W = x := by
  rw [Nat.add_comm, Nat.add_mul_mod_self_right]
  exact Nat.mod_eq_of_lt hx
theorem at_div {W x y : Nat} (hx : x < W) : (y * W + x) / W = y := by
  rw [Nat.add_comm, Nat.add_mul_div_right _ _ (by omega), Nat.div_eq_of_lt hx, Nat.zero_add]
theorem at_inj {W x y u v : Nat} (hx : x < W) (hu : u < W) (h : y * W + x = v * W + u) : x = u ∧ y = v := by
  have h1 : (y * W + x) % W = (v * W + u) % W := by rw [h]
  have h2 : (y * W + x) / W = (v * W + u) / W := by rw [h]
  rw [at_mod hx, at_mod hu] at h1
  rw [at_div hx, at_div hu] at h2
  exact ⟨h1, h2⟩
theorem at_of {W H k : Nat} (h : k < W * H) : k % W < W ∧ k / W < H ∧ k / W * W + k % W = k := by
  have hW : 0 < W := by
    rcases Nat.eq_zero_or_pos W with h0 | h0
    · subst h0; simp at h
    · exact h0
  refine ⟨Nat.mod_lt _ hW, ?_, ?_⟩
  · exact Nat.div_lt_of_lt_mul h
  · rw [Nat.mul_comm]; exact Nat.div_add_mod k W
theorem flat_at {W H x y : Nat} {c : Nat → Nat → Nat} (hx : x < W) (hy : y < H) : (flat W H c).getD (y * W + x) 0 = ((c x y : Nat) : Int) := by
  rw [flat_get (at_lt hx hy), at_mod hx, at_div hx]
theorem flat_congr {W H : Nat} {c d : Nat → Nat → Nat} (h : ∀ x y, x < W → y < H → c x y = d x y) : flat W H c = flat W H d := by
  unfold flat
  refine List.map_congr_left fun k hk => ?_
  obtain ⟨h1, h2, _⟩ := at_of (List.mem_range.1 hk)
  rw [h _ _ h1 h2]
/-- The cell at a place of a list. -/
def cel (zs : List Int) (W x y : Nat) : Nat := (zs.getD (y * W + x) 0).toNat
theorem getD_01 {zs : List Int} (h : ∀ z ∈ zs, z = 0 ∨ z = 1) (k : Nat) : zs.getD k 0 = 0 ∨ zs.getD k 0 = 1 := by
  rw [List.getD_eq_getElem?_getD]
  rcases Nat.lt_or_ge k zs.length with hk | hk
  · rw [List.getElem?_eq_getElem hk]; exact h _ (List.getElem_mem hk)
  · rw [List.getElem?_eq_none hk]; exact .inl rfl
theorem cel_lt {zs : List Int} {W : Nat} (h : ∀ z ∈ zs, z = 0 ∨ z = 1) (x y : Nat) : cel zs W x y < 2 := by
  unfold cel
  rcases getD_01 h (y * W + x) with e | e <;> rw [e] <;> decide
theorem cel_at {zs : List Int} {W : Nat} (h : ∀ z ∈ zs, z = 0 ∨ z = 1) (x y : Nat) : ((cel zs W x y : Nat) : Int) = zs.getD (y * W + x) 0 := by
  unfold cel
  rcases getD_01 h (y * W + x) with e | e <;> rw [e] <;> rfl
theorem flat_cel {zs : List Int} {W H : Nat} (hz : zs.length = W * H) (h : ∀ z ∈ zs, z = 0 ∨ z = 1) : flat W H (cel zs W) = zs := by
  apply List.ext_getElem (by rw [flat_len, hz])
  intro i h1 h2
  have hi : i < W * H := by omega
  have e := flat_get (c := cel zs W) hi
  obtain ⟨_, _, h3⟩ := at_of hi
  rw [cel_at h, h3] at e
  rw [List.getD_eq_getElem?_getD, List.getD_eq_getElem?_getD, List.getElem?_eq_getElem h1, List.getElem?_eq_getElem h2] at e
  exact e
theorem cel_flat {W H x y : Nat} {c : Nat → Nat → Nat} (hx : x < W) (hy : y < H) : cel (flat W H c) W x y = c x y := by
  unfold cel; rw [flat_at hx hy]; rfl

/-- Cells that hold a grid. -/
def Grd (cs : List Value) (W H : Nat) (c : Nat → Nat → Nat) : Prop := ∀ x y, x < W → y < H → cs[y * W + x]? = some (.int .i64 ((c x y : Nat) : Int))
theorem Grd.congr {cs : List Value} {W H : Nat} {c d : Nat → Nat → Nat} (h : Grd cs W H c) (e : ∀ x y, x < W → y < H → c x y = d x y) : Grd cs W H d := fun x y hx hy => by
  rw [← e x y hx hy]; exact h x y hx hy
/-- Numbers put, one after the other. -/
def puts (cs : List Value) (K v : Nat → Nat) : Nat → List Value
  | 0 => cs
  | i + 1 => (puts cs K v i).set (K i) (.int .i64 ((v i : Nat) : Int))
theorem puts_len {cs : List Value} {K v : Nat → Nat} : ∀ (i : Nat), (puts cs K v i).length = cs.length
  | 0 => rfl
  | i + 1 => by unfold puts; rw [List.length_set, puts_len i]
theorem puts_other {cs : List Value} {K v : Nat → Nat} {k : Nat} : ∀ (i : Nat), (∀ j, j < i → K j ≠ k) → (puts cs K v i)[k]? = cs[k]?
  | 0, _ => rfl
  | i + 1, h => by
    unfold puts
    rw [List.getElem?_set_ne (h i (by omega)), puts_other i fun j hj => h j (by omega)]
theorem puts_at {cs : List Value} {K v : Nat → Nat} {j : Nat} : ∀ (i : Nat), (∀ p q, p < q → q < i → K p ≠ K q) → j < i → K j < cs.length → (puts cs K v i)[K j]? = some (.int .i64 ((v j : Nat) : Int))
  | 0, _, h, _ => absurd h (Nat.not_lt_zero _)
  | i + 1, hK, h, hl => by
    unfold puts
    by_cases e : j = i
    · subst e
      rw [List.getElem?_set_self (by rw [puts_len]; exact hl)]
    · rw [List.getElem?_set_ne (fun x => hK j i (by omega) (by omega) x.symm), puts_at i (fun p q h1 h2 => hK p q h1 (by omega)) (by omega) hl]
/-- Where the i-th cell of a block stands. -/
def spot (W H x0 y0 i : Nat) : Nat := nxt H y0 (i / 2) * W + nxt W x0 (i % 2)
theorem nxt_lt {W x e : Nat} (hx : x < W) (he : e ≤ 1) : nxt W x e < W := by unfold nxt; split <;> omega
theorem spot_lt {W H x0 y0 i : Nat} (hx : x0 < W) (hy : y0 < H) (hi : i < 4) : spot W H x0 y0 i < W * H := at_lt (nxt_lt hx (by omega)) (nxt_lt hy (by omega))
/-- What the first i cells of a block make. -/
def part (c : Nat → Nat → Nat) (W H x0 y0 : Nat) : Nat → Nat
  | 0 => 0
  | i + 1 => part c W H x0 y0 i + c (nxt W x0 (i % 2)) (nxt H y0 (i / 2)) * 2 ^ i
theorem part_lt {c : Nat → Nat → Nat} {W H x0 y0 : Nat} (hc : ∀ x y, c x y < 2) : ∀ (i : Nat), part c W H x0 y0 i < 2 ^ i
  | 0 => by simp [part]
  | i + 1 => by
    have h1 := part_lt (W := W) (H := H) (x0 := x0) (y0 := y0) hc i
    have h2 := hc (nxt W x0 (i % 2)) (nxt H y0 (i / 2))
    have h3 : c (nxt W x0 (i % 2)) (nxt H y0 (i / 2)) * 2 ^ i ≤ 1 * 2 ^ i := Nat.mul_le_mul_right _ (by omega)
    unfold part
    rw [Nat.pow_succ]
    omega
theorem part_four {c : Nat → Nat → Nat} {W H x0 y0 : Nat} (hx : x0 < W) (hy : y0 < H) : part c W H x0 y0 4 = blk c W H x0 y0 := by
  unfold blk
  simp only [part, Nat.zero_div, Nat.zero_mod, show 1 / 2 = 0 from rfl, show 1 % 2 = 1 from rfl, show 2 / 2 = 1 from rfl, show 2 % 2 = 0 from rfl, show 3 / 2 = 1 from rfl, show 3 % 2 = 1 from rfl, nxt_zero hx, nxt_zero hy]
  omega
/-- A block that is done. -/
theorem grd_block {t : Nat → Nat} {W H ph x0 y0 : Nat} {c : Nat → Nat → Nat} {cs : List Value} (hW : W % 2 = 0) (hH : H % 2 = 0) (hph : ph ≤ 1) (hx0 : x0 < W) (hy0 : y0 < H) (px : (x0 + ph) % 2 = 0) (py : (y0 + ph) % 2 = 0)
    (h : Grd cs W H (mix t W H ph c y0 x0)) : Grd (puts cs (spot W H x0 y0) (bitN (t (blk c W H x0 y0))) 4) W H (mix t W H ph c y0 (x0 + 2)) := fun x y hx hy => by
  rw [mix_next hW hH hph hx0 hy0 px py hx hy]
  by_cases hb : ogn W ph x = x0 ∧ ogn H ph y = y0
  · rw [if_pos hb]
    obtain ⟨e, f, he, hf, rfl, rfl⟩ := (in_blk hW hH hph hx0 hy0 px py hx hy).1 hb
    rw [(ogn_nxt hW hx0 px hph he).2.1, (ogn_nxt hH hy0 py hph hf).2.1]
    have hs : nxt H y0 f * W + nxt W x0 e = spot W H x0 y0 (f * 2 + e) := by
      unfold spot
      rw [show (f * 2 + e) / 2 = f from by omega, show (f * 2 + e) % 2 = e from by omega]
    rw [hs]
    refine puts_at 4 (fun p q hpq hq he2 => ?_) (by omega) ?_
    · unfold spot at he2
      obtain ⟨h1, h2⟩ := at_inj (nxt_lt hx0 (by omega)) (nxt_lt hx0 (by omega)) he2
      have h3 := (ogn_nxt hW hx0 px hph (e := p % 2) (by omega)).2.1
      have h4 := (ogn_nxt hW hx0 px hph (e := q % 2) (by omega)).2.1
      have h5 := (ogn_nxt hH hy0 py hph (e := p / 2) (by omega)).2.1
      have h6 := (ogn_nxt hH hy0 py hph (e := q / 2) (by omega)).2.1
      rw [h1] at h3
      rw [h2] at h5
      omega
    · rw [← hs]
      exact (List.getElem?_eq_some_iff.1 (h _ _ hx hy)).1
  · rw [if_neg hb, puts_other 4 fun j hj e => ?_]
    · exact h x y hx hy
    · unfold spot at e
      obtain ⟨h1, h2⟩ := at_inj (nxt_lt hx0 (by omega)) hx e
      exact hb ((in_blk hW hH hph hx0 hy0 px py hx hy).2 ⟨j % 2, j / 2, by omega, by omega, h1.symm, h2.symm⟩)
end Bl
end Go.Proofs.YtgagophijmiceaaDoor
