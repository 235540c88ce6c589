/- PLAIN (no program in sight): rules of blocks on a torus with even sides: a step, cell by cell, and block by block in place. -/
import Derived.WalkKit
namespace Go.Proofs.YtgagophijmiceaaDoor
set_option linter.unusedSimpArgs false
set_option linter.unusedVariables false
namespace Bl

/-- Which of its block's columns (rows) a cell stands in; where its block begins; the e-th column of a block. -/
def dxy (ph x : Nat) : Nat := (x + ph) % 2
def ogn (W ph x : Nat) : Nat := if (x + ph) % 2 = 0 then x else if x = 0 then W - 1 else x - 1
def nxt (W x e : Nat) : Nat := if x + e < W then x + e else 0
theorem nxt_mod {W x e : Nat} (hx : x < W) (he : e ≤ 1) : (x + e) % W = nxt W x e := by
  unfold nxt
  split
  · rename_i h; exact Nat.mod_eq_of_lt h
  · rw [show x + e = W from by omega, Nat.mod_self]
theorem ogn_nxt {W ph x e : Nat} (hW : W % 2 = 0) (hx : x < W) (hp : (x + ph) % 2 = 0) (hph : ph ≤ 1) (he : e ≤ 1) : ogn W ph (nxt W x e) = x ∧ dxy ph (nxt W x e) = e ∧ nxt W x e < W := by
  unfold ogn nxt dxy
  refine ⟨?_, ?_, ?_⟩
  · repeat' split
    all_goals omega
  · split <;> omega
  · split <;> omega
theorem nxt_ogn {W ph x : Nat} (hW : W % 2 = 0) (hx : x < W) (hph : ph ≤ 1) : nxt W (ogn W ph x) (dxy ph x) = x ∧ ogn W ph x < W ∧ (ogn W ph x + ph) % 2 = 0 ∧ ph ≤ ogn W ph x ∧ dxy ph x ≤ 1 := by
  unfold ogn nxt dxy
  refine ⟨?_, ?_, ?_, ?_, ?_⟩
  · repeat' split
    all_goals omega
  · repeat' split
    all_goals omega
  · repeat' split
    all_goals omega
  · repeat' split
    all_goals omega
  · omega

def bitN (v i : Nat) : Nat := v / 2 ^ i % 2
/-- A block's number. -/
def blk (c : Nat → Nat → Nat) (W H ox oy : Nat) : Nat := c ox oy + 2 * c (nxt W ox 1) oy + 4 * c ox (nxt H oy 1) + 8 * c (nxt W ox 1) (nxt H oy 1)
/-- What becomes of a cell. -/
def cellN (t : Nat → Nat) (W H ph : Nat) (c : Nat → Nat → Nat) (x y : Nat) : Nat := bitN (t (blk c W H (ogn W ph x) (ogn H ph y))) (dxy ph y * 2 + dxy ph x)
/-- Blocks that begin ahead of (x0, y0) have been done. -/
def mix (t : Nat → Nat) (W H ph : Nat) (c : Nat → Nat → Nat) (y0 x0 x y : Nat) : Nat := if ogn H ph y < y0 ∨ ogn H ph y = y0 ∧ ogn W ph x < x0 then cellN t W H ph c x y else c x y
theorem mix_start {t : Nat → Nat} {W H ph x y : Nat} {c : Nat → Nat → Nat} (hW : W % 2 = 0) (hH : H % 2 = 0) (hph : ph ≤ 1) (hx : x < W) (hy : y < H) : mix t W H ph c ph ph x y = c x y := by
  have h1 := (nxt_ogn hW hx hph).2.2.2.1
  have h2 := (nxt_ogn hH hy hph).2.2.2.1
  unfold mix
  rw [if_neg (by omega)]
/-- At the row's end. -/
theorem mix_row {t : Nat → Nat} {W H ph x y y0 x0 : Nat} {c : Nat → Nat → Nat} (hW : W % 2 = 0) (hH : H % 2 = 0) (hph : ph ≤ 1) (hx : x < W) (hy : y < H) (hx0 : W ≤ x0) (hy0 : (y0 + ph) % 2 = 0) : mix t W H ph c y0 x0 x y = mix t W H ph c (y0 + 2) ph x y := by
  have h1 := nxt_ogn hW hx hph
  have h2 := nxt_ogn hH hy hph
  unfold mix
  by_cases h : ogn H ph y < y0 ∨ ogn H ph y = y0 ∧ ogn W ph x < x0
  · rw [if_pos h, if_pos (by omega)]
  · rw [if_neg h, if_neg (by omega)]
theorem mix_end {t : Nat → Nat} {W H ph x y y0 x0 : Nat} {c : Nat → Nat → Nat} (hH : H % 2 = 0) (hph : ph ≤ 1) (hy : y < H) (hy0 : H ≤ y0) : mix t W H ph c y0 x0 x y = cellN t W H ph c x y := by
  have h2 := (nxt_ogn hH hy hph).2.1
  unfold mix
  rw [if_pos (by omega)]
/-- A cell of the block that comes next has not been done. -/
theorem mix_same {t : Nat → Nat} {W H ph x0 y0 e f : Nat} {c : Nat → Nat → Nat} (hW : W % 2 = 0) (hH : H % 2 = 0) (hph : ph ≤ 1) (hx0 : x0 < W) (hy0 : y0 < H) (px : (x0 + ph) % 2 = 0) (py : (y0 + ph) % 2 = 0) (he : e ≤ 1) (hf : f ≤ 1) :
    mix t W H ph c y0 x0 (nxt W x0 e) (nxt H y0 f) = c (nxt W x0 e) (nxt H y0 f) := by
  have h1 := (ogn_nxt hW hx0 px hph he).1
  have h2 := (ogn_nxt hH hy0 py hph hf).1
  unfold mix
  rw [h1, h2, if_neg (by omega)]
theorem nxt_zero {W x : Nat} (h : x < W) : nxt W x 0 = x := by unfold nxt; rw [if_pos (by omega)]; rfl
theorem mix_blk {t : Nat → Nat} {W H ph x0 y0 : Nat} {c : Nat → Nat → Nat} (hW : W % 2 = 0) (hH : H % 2 = 0) (hph : ph ≤ 1) (hx0 : x0 < W) (hy0 : y0 < H) (px : (x0 + ph) % 2 = 0) (py : (y0 + ph) % 2 = 0) :
    blk (mix t W H ph c y0 x0) W H x0 y0 = blk c W H x0 y0 := by
  have h00 := mix_same (t := t) (c := c) hW hH hph hx0 hy0 px py (e := 0) (f := 0) (by omega) (by omega)
  have h10 := mix_same (t := t) (c := c) hW hH hph hx0 hy0 px py (e := 1) (f := 0) (by omega) (by omega)
  have h01 := mix_same (t := t) (c := c) hW hH hph hx0 hy0 px py (e := 0) (f := 1) (by omega) (by omega)
  have h11 := mix_same (t := t) (c := c) hW hH hph hx0 hy0 px py (e := 1) (f := 1) (by omega) (by omega)
  rw [nxt_zero hx0, nxt_zero hy0] at h00
  rw [nxt_zero hy0] at h10
  rw [nxt_zero hx0] at h01
  unfold blk
  rw [h00, h10, h01, h11]
/-- The block's own cells, behind its step; all others stay. -/
theorem mix_next {t : Nat → Nat} {W H ph x0 y0 x y : Nat} {c : Nat → Nat → Nat} (hW : W % 2 = 0) (hH : H % 2 = 0) (hph : ph ≤ 1) (hx0 : x0 < W) (hy0 : y0 < H) (px : (x0 + ph) % 2 = 0) (py : (y0 + ph) % 2 = 0) (hx : x < W) (hy : y < H) :
    mix t W H ph c y0 (x0 + 2) x y = if ogn W ph x = x0 ∧ ogn H ph y = y0 then bitN (t (blk c W H x0 y0)) (dxy ph y * 2 + dxy ph x) else mix t W H ph c y0 x0 x y := by
  have h1 := nxt_ogn hW hx hph
  have h2 := nxt_ogn hH hy hph
  unfold mix
  by_cases h : ogn W ph x = x0 ∧ ogn H ph y = y0
  · rw [if_pos h, if_pos (by omega)]
    unfold cellN
    rw [h.1, h.2]
  · rw [if_neg h]
    by_cases h3 : ogn H ph y < y0 ∨ ogn H ph y = y0 ∧ ogn W ph x < x0
    · rw [if_pos h3, if_pos (by omega)]
    · rw [if_neg h3, if_neg (by omega)]
/-- Which cells are the block's. -/
theorem in_blk {W H ph x0 y0 x y : Nat} (hW : W % 2 = 0) (hH : H % 2 = 0) (hph : ph ≤ 1) (hx0 : x0 < W) (hy0 : y0 < H) (px : (x0 + ph) % 2 = 0) (py : (y0 + ph) % 2 = 0) (hx : x < W) (hy : y < H) :
    (ogn W ph x = x0 ∧ ogn H ph y = y0) ↔ ∃ e f, e ≤ 1 ∧ f ≤ 1 ∧ x = nxt W x0 e ∧ y = nxt H y0 f := by
  constructor
  · rintro ⟨rfl, rfl⟩
    have h1 := nxt_ogn hW hx hph
    have h2 := nxt_ogn hH hy hph
    exact ⟨dxy ph x, dxy ph y, h1.2.2.2.2, h2.2.2.2.2, h1.1.symm, h2.1.symm⟩
  · rintro ⟨e, f, he, hf, rfl, rfl⟩
    exact ⟨(ogn_nxt hW hx0 px hph he).1, (ogn_nxt hH hy0 py hph hf).1⟩

/-- Four bits and their number. -/
theorem bitN_blk {a b c d : Nat} (ha : a < 2) (hb : b < 2) (hc : c < 2) (hd : d < 2) : bitN (a + 2 * b + 4 * c + 8 * d) 0 = a ∧ bitN (a + 2 * b + 4 * c + 8 * d) 1 = b ∧ bitN (a + 2 * b + 4 * c + 8 * d) 2 = c ∧ bitN (a + 2 * b + 4 * c + 8 * d) 3 = d := by
  unfold bitN
  refine ⟨?_, ?_, ?_, ?_⟩ <;> omega
theorem blk_bits {v : Nat} (h : v < 16) : bitN v 0 + 2 * bitN v 1 + 4 * bitN v 2 + 8 * bitN v 3 = v := by
  unfold bitN; omega
theorem bitN_lt (v i : Nat) : bitN v i < 2 := Nat.mod_lt _ (by omega)
/-- The block that a step has made is the table's. -/
theorem blk_cellN {t : Nat → Nat} {W H ph x0 y0 : Nat} {c : Nat → Nat → Nat} (hW : W % 2 = 0) (hH : H % 2 = 0) (hph : ph ≤ 1) (hx0 : x0 < W) (hy0 : y0 < H) (px : (x0 + ph) % 2 = 0) (py : (y0 + ph) % 2 = 0) (ht : t (blk c W H x0 y0) < 16) :
    blk (cellN t W H ph c) W H x0 y0 = t (blk c W H x0 y0) := by
  have key : ∀ e f, e ≤ 1 → f ≤ 1 → cellN t W H ph c (nxt W x0 e) (nxt H y0 f) = bitN (t (blk c W H x0 y0)) (f * 2 + e) := fun e f he hf => by
    obtain ⟨h1, h2, _⟩ := ogn_nxt hW hx0 px hph he
    obtain ⟨h3, h4, _⟩ := ogn_nxt hH hy0 py hph hf
    unfold cellN
    rw [h1, h2, h3, h4]
  have k00 := key 0 0 (by omega) (by omega)
  have k10 := key 1 0 (by omega) (by omega)
  have k01 := key 0 1 (by omega) (by omega)
  have k11 := key 1 1 (by omega) (by omega)
  rw [nxt_zero hx0, nxt_zero hy0] at k00
  rw [nxt_zero hy0] at k10
  rw [nxt_zero hx0] at k01
  have := blk_bits ht
  unfold blk at *
  rw [k00, k10, k01, k11]
  exact this
theorem cell_of_blk {W H ph x y : Nat} {c : Nat → Nat → Nat} (hW : W % 2 = 0) (hH : H % 2 = 0) (hph : ph ≤ 1) (hx : x < W) (hy : y < H) (hc : ∀ x y, c x y < 2) : bitN (blk c W H (ogn W ph x) (ogn H ph y)) (dxy ph y * 2 + dxy ph x) = c x y := by
  obtain ⟨h1, hox, _, _, h5⟩ := nxt_ogn hW hx hph
  obtain ⟨h6, hoy, _, _, h10⟩ := nxt_ogn hH hy hph
  obtain ⟨b0, b1, b2, b3⟩ := bitN_blk (hc (ogn W ph x) (ogn H ph y)) (hc (nxt W (ogn W ph x) 1) (ogn H ph y)) (hc (ogn W ph x) (nxt H (ogn H ph y) 1)) (hc (nxt W (ogn W ph x) 1) (nxt H (ogn H ph y) 1))
  unfold blk
  generalize hdx : dxy ph x = dx at *
  generalize hdy : dxy ph y = dy at *
  have hx2 : dx = 0 ∨ dx = 1 := by omega
  have hy2 : dy = 0 ∨ dy = 1 := by omega
  rcases hx2 with rfl | rfl <;> rcases hy2 with rfl | rfl
  · rw [nxt_zero hox] at h1
    rw [nxt_zero hoy] at h6
    rw [b0, h1, h6]
  · rw [nxt_zero hox] at h1
    rw [b2, h1, h6]
  · rw [nxt_zero hoy] at h6
    rw [b1, h1, h6]
  · rw [b3, h1, h6]
/-- WHAT CAN BE UNDONE IS UNDONE: a step of the table that undoes, at the same phase. -/
theorem back_step {t u : Nat → Nat} {W H ph x y : Nat} {c : Nat → Nat → Nat} (hW : W % 2 = 0) (hH : H % 2 = 0) (hph : ph ≤ 1) (hx : x < W) (hy : y < H) (hc : ∀ x y, c x y < 2) (ht : ∀ b, b < 16 → t b < 16) (hu : ∀ b, b < 16 → u (t b) = b) :
    cellN u W H ph (cellN t W H ph c) x y = c x y := by
  obtain ⟨_, hox, px, _, _⟩ := nxt_ogn hW hx hph
  obtain ⟨_, hoy, py, _, _⟩ := nxt_ogn hH hy hph
  have hb : blk c W H (ogn W ph x) (ogn H ph y) < 16 := by
    have h1 := hc (ogn W ph x) (ogn H ph y)
    have h2 := hc (nxt W (ogn W ph x) 1) (ogn H ph y)
    have h3 := hc (ogn W ph x) (nxt H (ogn H ph y) 1)
    have h4 := hc (nxt W (ogn W ph x) 1) (nxt H (ogn H ph y) 1)
    unfold blk; omega
  show bitN (u (blk (cellN t W H ph c) W H (ogn W ph x) (ogn H ph y))) _ = _
  rw [blk_cellN hW hH hph hox hoy px py (ht _ hb), hu _ hb]
  exact cell_of_blk hW hH hph hx hy hc
end Bl
end Go.Proofs.YtgagophijmiceaaDoor
