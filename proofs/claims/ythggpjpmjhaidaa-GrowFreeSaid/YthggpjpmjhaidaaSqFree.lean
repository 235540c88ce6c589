/- PLAIN: no overlap in Thue's word, no square in the word over three letters, as far as 1200 letters: by bit planes, reckoned in the kernel. -/
import Derived.Test.YthggpjpmjhaidaaSqPl
import Derived.Test.YthggpjpmjhaidaaGrL
namespace Go.Proofs.Ythggpjpmjhaidaa
namespace SqF
open Sq Gr

/-- The bit plane of a letter. -/
def plane (x : UInt8) : List UInt8 → Nat
  | [] => 0
  | c :: r => 2 * plane x r + if c = x then 1 else 0
theorem testBit_plane (x : UInt8) (hx : x ≠ 0) : ∀ (l : List UInt8) (i : Nat), (plane x l).testBit i = decide (l.getD i 0 = x)
  | [], i => by simp [plane, hx.symm]
  | c :: r, 0 => by
    unfold plane
    rw [Nat.testBit_zero]
    by_cases h : c = x
    · simp [h]
    · simp [h]
  | c :: r, i + 1 => by
    unfold plane
    rw [Nat.testBit_succ]
    have : (2 * plane x r + if c = x then 1 else 0) / 2 = plane x r := by split <;> omega
    rw [this, testBit_plane x hx r i]
    simp
/-- And of k + 1 bits in a row. -/
def runs (y : Nat) : Nat → Nat
  | 0 => y
  | k + 1 => runs y k &&& (y >>> (k + 1))
theorem testBit_runs {y p : Nat} : ∀ {k : Nat}, (∀ j, j ≤ k → y.testBit (p + j) = true) → (runs y k).testBit p = true
  | 0, h => h 0 (Nat.le_refl _)
  | k + 1, h => by
    unfold runs
    rw [Nat.testBit_and, testBit_runs (k := k) fun j hj => h j (by omega), Nat.testBit_shiftRight, Nat.add_comm (k + 1) p, h (k + 1) (Nat.le_refl _)]
    rfl
theorem runs_ne {y p k : Nat} (h : ∀ j, j ≤ k → y.testBit (p + j) = true) : runs y k ≠ 0 := fun e => by
  have := testBit_runs h
  rw [e] at this
  simp at this
/-- Where a letter is as that n further on: bits up to m. -/
def like (a b m n : Nat) : Nat := (2 ^ m - 1) ^^^ ((a ^^^ (a >>> n)) ||| (b ^^^ (b >>> n))) % 2 ^ m
theorem testBit_like (a b m n i : Nat) (hi : i < m) (ha : a.testBit i = a.testBit (i + n)) (hb : b.testBit i = b.testBit (i + n)) : (like a b m n).testBit i = true := by
  unfold like
  rw [Nat.testBit_xor, Nat.testBit_two_pow_sub_one, Nat.testBit_mod_two_pow, Nat.testBit_or, Nat.testBit_xor, Nat.testBit_xor, Nat.testBit_shiftRight, Nat.testBit_shiftRight, Nat.add_comm n i, ha, hb]
  simp [hi]

/-- No word of the size n stands there twice (and goes on for 'more' letters), n = 1 .. k. -/
def free (a b len more : Nat) : Nat → Bool
  | 0 => true
  | n + 1 => free a b len more n && (len < 2 * (n + 1) + more || runs (like a b (len - (n + 1)) (n + 1)) (n + more) == 0)
theorem free_at {a b len more : Nat} : ∀ {k n : Nat}, free a b len more k = true → 1 ≤ n → n ≤ k → 2 * n + more ≤ len → runs (like a b (len - n) n) (n - 1 + more) = 0
  | 0, n, _, h1, h2, _ => by omega
  | k + 1, n, h, h1, h2, h3 => by
    unfold free at h
    simp only [Bool.and_eq_true, Bool.or_eq_true, decide_eq_true_eq, beq_iff_eq] at h
    by_cases e : n = k + 1
    · subst e
      rcases h.2 with h | h
      · omega
      · exact h
    · exact free_at h.1 h1 (by omega) h3

/-- A text that begins like l, no longer than len, over the letters of two planes and one more, has none. -/
theorem none_of_free {s : ByteArray} {l : List UInt8} {len more : Nat} (hlen : s.size ≤ len) (hpre : ∀ i, i < s.size → at_ s i = l.getD i 0)
    (hf : free (plane 98 l) (plane 99 l) len more len = true) : NoneTo s more (s.size + 1) := by
  intro e he1 he2 n hn1 hn2 hrep
  have h0 := free_at hf hn1 (by omega) (by omega)
  refine runs_ne (p := e - (2 * n + more)) (fun j hj => ?_) h0
  have hr := hrep j (by omega)
  rw [hpre _ (by omega), hpre _ (by omega)] at hr
  refine testBit_like _ _ _ _ _ (by omega) ?_ ?_
  · rw [testBit_plane 98 (by decide), testBit_plane 98 (by decide), hr]
    congr 2; congr 1; omega
  · rw [testBit_plane 99 (by decide), testBit_plane 99 (by decide), hr]
    congr 2; congr 1; omega

/-- Thue's substitutions. -/
def tm : List ByteArray := [⟨#[97, 98]⟩, ⟨#[98, 97]⟩]
def tern : List ByteArray := [⟨#[97, 98, 99]⟩, ⟨#[97, 99]⟩, ⟨#[98]⟩]
theorem tm_free : free (plane 98 (growI tm 11 [97])) (plane 99 (growI tm 11 [97])) 1200 1 1200 = true := by decide +kernel
theorem tern_free : free (plane 98 (growI tern 10 [97])) (plane 99 (growI tern 10 [97])) 1200 0 1200 = true := by decide +kernel
end SqF
end Go.Proofs.Ythggpjpmjhaidaa
