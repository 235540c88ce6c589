/- PLANES, plain: what is trimmed, what next gives, and what again tells, in the plane's words. -/
import Derived.Test.YthipeeagpllfeaaDoorPnN
namespace Go.Proofs.YthipeeagpllfeaaDoor
set_option linter.unusedSimpArgs false
set_option linter.unusedVariables false
open Go.RowKit
namespace Pn
open Tld Mem Bl

theorem Trimmed.held {W H W' H' X Y : Nat} {f f' : Nat → Nat → Nat} (h : Trimmed W H f W' H' f' X Y) : Held (ext W H f) W' H' f' X Y := by
  rcases h with ⟨rfl, rfl, rfl, rfl, hz⟩ | ⟨r, b, hb, rfl, rfl, rfl⟩
  · exact .inl ⟨rfl, rfl, lies_ext.dead hz⟩
  · have := lies_ext.held (c := f) hb
    rw [Int.zero_add, Int.zero_add] at this
    exact this
theorem nextIs_held {B S W H W' H' : Nat} {f f' : Nat → Nat → Nat} {X Y X' Y' : Int} {ev : Value} {L : Int → Int → Nat} (hB : B % 2 = 0) (hL : Held L W H f X Y) (h : NextIs B S W H f X Y W' H' f' X' Y' ev) :
    (ev = .nilIface ∧ ¬ Big (nx B S L) ∧ Held (nx B S L) W' H' f' X' Y' ∧ W' ≤ 100 ∧ H' ≤ 100 ∧ ((W' = 0 ∧ X' = 0 ∧ Y' = 0) ∨ (0 < W' ∧ X - 1 ≤ X' ∧ X' + W' ≤ X + W + 1 ∧ Y - 1 ≤ Y' ∧ Y' + H' ≤ Y + H + 1)) ∧ (0 < W' → ∀ x y, f' x y < 2)) ∨ (ev = errV 4 ∧ Big (nx B S L)) := by
  have hn : Lies (nx B S L) (W + 2 + 2) (H + 2 + 2) (nxg B S W H f) (X - 2) (Y - 2) := lies_next hB hL.lies
  rcases h with ⟨rfl, rfl, rfl, rfl, rfl, hz⟩ | ⟨l, t, r, b, hb, hW', hH', h⟩
  · have hd := hn.dead hz
    exact .inl ⟨rfl, fun ⟨x, y, _, _, h1, _⟩ => h1 (hd x y), .inl ⟨rfl, rfl, hd⟩, Nat.zero_le _, Nat.zero_le _, .inl ⟨rfl, rfl, rfl⟩, fun h => absurd h (Nat.lt_irrefl 0)⟩
  · have hh := hn.held hb
    rw [← hW', ← hH'] at hh
    have hwp : 0 < W' := by omega
    rcases hh with ⟨h0, _⟩ | ⟨h1, h2, h3, h4⟩
    · omega
    · rcases h with ⟨rfl, hbig⟩ | ⟨rfl, hs1, hs2, rfl, rfl, rfl⟩
      · exact .inr ⟨rfl, h3.big.2 (by omega)⟩
      · have hx : X - 2 + (l : Int) = X + l - 2 := by omega
        have hy : Y - 2 + (t : Int) = Y + t - 2 := by omega
        rw [hx, hy] at h3 h4
        refine .inl ⟨rfl, fun hb => ?_, .inr ⟨h1, h2, h3, h4⟩, hs1, hs2, .inr ⟨hwp, ?_⟩, fun _ x y => tor_lt _ _ _ _ _ _ _⟩
        · have := h3.big.1 hb
          omega
        · obtain ⟨y1, a1⟩ := h3.le
          obtain ⟨y2, a2⟩ := h3.ri
          obtain ⟨x3, a3⟩ := h3.to
          obtain ⟨x4, a4⟩ := h3.bo
          have b1 := lies_rest hB hL.lies _ _ a1
          have b2 := lies_rest hB hL.lies _ _ a2
          have b3 := lies_rest hB hL.lies _ _ a3
          have b4 := lies_rest hB hL.lies _ _ a4
          omega
theorem Held.not_big {L : Int → Int → Nat} {W H : Nat} {f : Nat → Nat → Nat} {X Y : Int} (h : Held L W H f X Y) (hW : W ≤ 100) (hH : H ≤ 100) : ¬ Big L := by
  rcases h with ⟨_, _, hd⟩ | ⟨h1, h2, h3, h4⟩
  · exact fun ⟨x, y, _, _, h1, _⟩ => h1 (hd x y)
  · exact fun hb => by have := h3.big.1 hb; omega
theorem Held.box {L : Int → Int → Nat} {W H : Nat} {f : Nat → Nat → Nat} {X Y : Int} (h : Held L W H f X Y) : ¬ Dead L → ∃ l t r b, Box L l t r b := by
  intro hd
  rcases h with ⟨_, _, h⟩ | ⟨h1, h2, h3, h4⟩
  · exact absurd h hd
  · exact ⟨_, _, _, _, h3⟩
theorem dead_next {B S : Nat} {L : Int → Int → Nat} (hB : B % 2 = 0) (h : Dead L) : Dead (nx B S L) := fun x y => nx_zero hB fun _ _ _ _ _ _ => h _ _
theorem dead_far {B S : Nat} {L : Int → Int → Nat} (hB : B % 2 = 0) (h : Dead L) : ∀ n, Dead (far B S L n)
  | 0 => h
  | n + 1 => dead_next hB (dead_far hB h n)
theorem Trimmed.lt {W H W' H' X Y : Nat} {f f' : Nat → Nat → Nat} (h : Trimmed W H f W' H' f' X Y) (hf : ∀ x y, f x y < 2) : 0 < W' → ∀ x y, f' x y < 2 := fun hw => by
  rcases h with ⟨rfl, _⟩ | ⟨r, b, hb, rfl, rfl, rfl⟩
  · omega
  · exact fun x y => hf _ _
theorem Trimmed.le {W H W' H' X Y : Nat} {f f' : Nat → Nat → Nat} (h : Trimmed W H f W' H' f' X Y) : W' ≤ W ∧ H' ≤ H ∧ X ≤ W ∧ Y ≤ H := by
  rcases h with ⟨rfl, rfl, rfl, rfl, _⟩ | ⟨r, b, hb, rfl, rfl, rfl⟩
  · omega
  · have := hb.lr
    have := hb.tb
    omega
/-- How it stands behind so many steps, while it is looked whether it comes again. -/
structure Going (B S : Nat) (L0 : Int → Int → Nat) (m : Nat) : Prop where
  before : ∀ j, 1 ≤ j → j < m → Still L0 (far B S L0 j)
  big : 1 ≤ m → ¬ Big (far B S L0 m)
  new : 1 ≤ m → ∀ u v, ¬ Came L0 (far B S L0 m) u v
theorem Going.zero {B S : Nat} {L0 : Int → Int → Nat} : Going B S L0 0 := ⟨fun j h1 h2 => by omega, fun h => by omega, fun h => by omega⟩
theorem Going.still {B S m : Nat} {L0 : Int → Int → Nat} (h : Going B S L0 m) (hd : ¬ Dead (far B S L0 m)) : ∀ j, 1 ≤ j → j ≤ m → Still L0 (far B S L0 j) := fun j h1 h2 => by
  by_cases e : j = m
  · subst e; exact ⟨h.big h1, hd, h.new h1⟩
  · exact h.before j h1 (by omega)
theorem Going.next {B S m : Nat} {L0 : Int → Int → Nat} (h : Going B S L0 m) (hd : ¬ Dead (far B S L0 m)) (hb : ¬ Big (far B S L0 (m + 1))) (hn : ∀ u v, ¬ Came L0 (far B S L0 (m + 1)) u v) : Going B S L0 (m + 1) :=
  ⟨fun j h1 h2 => h.still hd j h1 (by omega), fun _ => hb, fun _ => hn⟩
/-- It lives no more, or the steps are over. -/
theorem Going.none {B S m most : Nat} {L0 : Int → Int → Nat} (h : Going B S L0 m) (hm : m ≤ most) (he : Dead (far B S L0 m) ∨ m = most) : Tells B S L0 most .none := by
  by_cases h0 : Dead L0
  · exact .inl ⟨h0, rfl⟩
  · by_cases hd : Dead (far B S L0 m)
    · have hm1 : 1 ≤ m := by
        rcases Nat.eq_zero_or_pos m with e | e
        · subst e; exact absurd hd h0
        · exact e
      exact .inr (.inr ⟨h0, m, hm1, hm, h.before, .inr (.inl ⟨h.big hm1, hd, rfl⟩)⟩)
    · rcases he with he | rfl
      · exact absurd he hd
      · exact .inr (.inl ⟨h0, h.still hd, rfl⟩)
theorem Going.full {B S m most : Nat} {L0 : Int → Int → Nat} (h : Going B S L0 m) (hd : ¬ Dead (far B S L0 m)) (h0 : ¬ Dead L0) (hm : m + 1 ≤ most) (hb : Big (far B S L0 (m + 1))) : Tells B S L0 most .full :=
  .inr (.inr ⟨h0, m + 1, by omega, hm, fun j h1 h2 => h.still hd j h1 (by omega), .inl ⟨hb, rfl⟩⟩)
theorem Going.at {B S m most : Nat} {L0 : Int → Int → Nat} {u v : Int} (h : Going B S L0 m) (hd : ¬ Dead (far B S L0 m)) (h0 : ¬ Dead L0) (hm : m + 1 ≤ most) (hb : ¬ Big (far B S L0 (m + 1))) (hd2 : ¬ Dead (far B S L0 (m + 1))) (hc : Came L0 (far B S L0 (m + 1)) u v) : Tells B S L0 most (.at (m + 1) u v) :=
  .inr (.inr ⟨h0, m + 1, by omega, hm, fun j h1 h2 => h.still hd j h1 (by omega), .inr (.inr ⟨hb, hd2, u, v, hc, rfl⟩)⟩)
/-- What Again hands back. -/
def againV : Out → Value
  | .full => .tuple #[.agg #[.int .i64 0, .int .i64 0, .int .i64 0], errV 4]
  | .none => .tuple #[.agg #[.int .i64 0, .int .i64 0, .int .i64 0], errV 5]
  | .at n u v => .tuple #[.agg #[.int .i64 (n : Nat), .int .i64 u, .int .i64 v], .nilIface]
/-- A quarter's turn, and a mirror, of a pattern in the plane. -/
theorem tw_turn {W H : Nat} {f : Nat → Nat → Nat} : ∀ k, ∃ a b c d e g : Int, Mat a b c d ∧ Tw a b c d e g (ext W H f) (ext (qW W H k) (qH W H k) (qF W H f k))
  | 0 => ⟨1, 0, 0, 1, 0, 0, .inl ⟨rfl, rfl, .inl rfl, .inl rfl⟩, fun x y => by
      show ext W H f x y = ext W H f _ _
      congr 1 <;> omega⟩
  | k + 1 => by
    obtain ⟨a, b, c, d, e, g, hm, ht⟩ := tw_turn (W := W) (H := H) (f := f) k
    have h2 := quart_ext (W := qW W H k) (H := qH W H k) (c := qF W H f k)
    rw [(q_next W H k).1, (q_next W H k).2]
    exact ⟨_, _, _, _, _, _, hm.mul mat_quart, ht.trans h2⟩
theorem tw_all {W H k : Nat} {f : Nat → Nat → Nat} : ∃ a b c d e g : Int, Mat a b c d ∧ Tw a b c d e g (ext W H f) (ext (qW W H (k % 4)) (qH W H (k % 4)) (tF W H f k)) := by
  unfold tF
  by_cases h : 4 ≤ k
  · rw [if_pos h]
    obtain ⟨a, b, c, d, e, g, hm, ht⟩ := tw_turn (W := W) (H := H) (f := mir W f) (k % 4)
    exact ⟨_, _, _, _, _, _, mat_mir.mul hm, mir_ext.trans ht⟩
  · rw [if_neg h]
    exact tw_turn (k % 4)
theorem tF_lt {W H k : Nat} {f : Nat → Nat → Nat} (hf : ∀ x y, f x y < 2) (x y : Nat) : tF W H f k x y < 2 := by
  have hq : ∀ (g : Nat → Nat → Nat), (∀ x y, g x y < 2) → ∀ j x y, qF W H g j x y < 2 := fun g hg j => by
    induction j with
    | zero => exact hg
    | succ j ih => exact fun x y => ih _ _
  unfold tF
  refine hq _ ?_ _ _ _
  split
  · exact fun x y => hf _ _
  · exact hf
/-- A step of a turned one is the step, turned. -/
theorem tor_turn {B S W H x y : Nat} {f g : Nat → Nat → Nat} (hg : ∀ x y, x < W → y < H → g x y = tor B S W H f x y) : ∀ k, ∀ x y, x < qW W H k → y < qH W H k → tor B S (qW W H k) (qH W H k) (qF W H f k) x y = qF W H g k x y
  | 0, x, y, hx, hy => (hg x y hx hy).symm
  | k + 1, x, y, hx, hy => by
    rw [(q_next W H k).1] at hx ⊢
    rw [(q_next W H k).2] at hy ⊢
    show tor B S _ _ (quart (qH W H k) (qF W H f k)) x y = quart (qH W H k) (qF W H g k) x y
    rw [tor_quart hx hy]
    unfold quart
    exact tor_turn (x := x) (y := y) hg k y (qH W H k - 1 - x) hy (by omega)
theorem tor_all {B S W H k x y : Nat} {f g : Nat → Nat → Nat} (hg : ∀ x y, x < W → y < H → g x y = tor B S W H f x y) (hx : x < qW W H (k % 4)) (hy : y < qH W H (k % 4)) :
    tor B S (qW W H (k % 4)) (qH W H (k % 4)) (tF W H f k) x y = tF W H g k x y := by
  unfold tF
  by_cases h : 4 ≤ k
  · rw [if_pos h, if_pos h]
    refine tor_turn (x := x) (y := y) (fun x y hx hy => ?_) (k % 4) x y hx hy
    rw [tor_mir hx hy]
    unfold mir
    exact hg _ _ (by omega) hy
  · rw [if_neg h, if_neg h]
    exact tor_turn (x := x) (y := y) hg (k % 4) x y hx hy
end Pn
end Go.Proofs.YthipeeagpllfeaaDoor
