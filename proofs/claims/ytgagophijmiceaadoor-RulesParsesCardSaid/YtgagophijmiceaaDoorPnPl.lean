/- PLANES, plain: a step of what lives in a plane, what is about it, how it may be turned, when it comes again. -/
import Derived.Test.YtgagophijmiceaaDoorBlPl
import Derived.Test.YtgagophijmiceaaDoorBlG
namespace Go.Proofs.YtgagophijmiceaaDoor
set_option linter.unusedSimpArgs false
set_option linter.unusedVariables false
namespace Pn
open Bl

/-- How many of the nine cells about a place live, the place itself among them. -/
def nine (L : Int → Int → Nat) (x y : Int) : Nat :=
  L (x + -1) (y + -1) + L (x + 0) (y + -1) + L (x + 1) (y + -1) + (L (x + -1) (y + 0) + L (x + 0) (y + 0) + L (x + 1) (y + 0)) + (L (x + -1) (y + 1) + L (x + 0) (y + 1) + L (x + 1) (y + 1))
/-- What a cell becomes that has so many neighbours. -/
def bec (B S c n : Nat) : Nat := bitN (if c = 1 then S else B) n
theorem bec_lt (B S c n : Nat) : bec B S c n < 2 := bitN_lt _ _
/-- A step in a plane. -/
def nx (B S : Nat) (L : Int → Int → Nat) (x y : Int) : Nat := bec B S (L x y) (nine L x y - L x y)
theorem nx_lt (B S : Nat) (L : Int → Int → Nat) (x y : Int) : nx B S L x y < 2 := bec_lt _ _ _ _
/-- So many steps. -/
def far (B S : Nat) (L : Int → Int → Nat) : Nat → Int → Int → Nat
  | 0 => L
  | n + 1 => nx B S (far B S L n)
/-- Nothing lives. -/
def Dead (L : Int → Int → Nat) : Prop := ∀ x y, L x y = 0
/-- The least rectangle about what lives. -/
structure Box (L : Int → Int → Nat) (l t r b : Int) : Prop where
  inn : ∀ x y, L x y ≠ 0 → (l ≤ x ∧ x ≤ r) ∧ t ≤ y ∧ y ≤ b
  le : ∃ y, L l y ≠ 0
  ri : ∃ y, L r y ≠ 0
  to : ∃ x, L x t ≠ 0
  bo : ∃ x, L x b ≠ 0
theorem Box.unique {L : Int → Int → Nat} {l t r b l' t' r' b' : Int} (h : Box L l t r b) (h' : Box L l' t' r' b') : (l = l' ∧ r = r') ∧ t = t' ∧ b = b' := by
  obtain ⟨y1, a1⟩ := h.le
  obtain ⟨y2, a2⟩ := h.ri
  obtain ⟨x3, a3⟩ := h.to
  obtain ⟨x4, a4⟩ := h.bo
  obtain ⟨y5, a5⟩ := h'.le
  obtain ⟨y6, a6⟩ := h'.ri
  obtain ⟨x7, a7⟩ := h'.to
  obtain ⟨x8, a8⟩ := h'.bo
  have b1 := h'.inn _ _ a1
  have b2 := h'.inn _ _ a2
  have b3 := h'.inn _ _ a3
  have b4 := h'.inn _ _ a4
  have b5 := h.inn _ _ a5
  have b6 := h.inn _ _ a6
  have b7 := h.inn _ _ a7
  have b8 := h.inn _ _ a8
  omega
theorem Box.live {L : Int → Int → Nat} {l t r b : Int} (h : Box L l t r b) : ¬ Dead L := fun d => by
  obtain ⟨y, a⟩ := h.le
  exact a (d _ _)
theorem Box.sides {L : Int → Int → Nat} {l t r b : Int} (h : Box L l t r b) : l ≤ r ∧ t ≤ b := by
  obtain ⟨y, a⟩ := h.le
  have := h.inn _ _ a
  omega
/-- It is wider or higher than patterns are. -/
def Big (L : Int → Int → Nat) : Prop := ∃ x y x' y', L x y ≠ 0 ∧ L x' y' ≠ 0 ∧ (100 ≤ x' - x ∨ 100 ≤ y' - y)
theorem Box.big {L : Int → Int → Nat} {l t r b : Int} (h : Box L l t r b) : Big L ↔ (100 < r - l + 1 ∨ 100 < b - t + 1) := by
  constructor
  · rintro ⟨x, y, x', y', h1, h2, h3⟩
    have := h.inn _ _ h1
    have := h.inn _ _ h2
    omega
  · obtain ⟨y1, a1⟩ := h.le
    obtain ⟨y2, a2⟩ := h.ri
    obtain ⟨x3, a3⟩ := h.to
    obtain ⟨x4, a4⟩ := h.bo
    rintro (k | k)
    · exact ⟨_, _, _, _, a1, a2, .inl (by omega)⟩
    · exact ⟨_, _, _, _, a3, a4, .inr (by omega)⟩

/-- A pattern at a place is what lives: cut to what lives, or nothing. -/
def Held (L : Int → Int → Nat) (W H : Nat) (c : Nat → Nat → Nat) (X Y : Int) : Prop :=
  (W = 0 ∧ H = 0 ∧ Dead L) ∨ (0 < W ∧ 0 < H ∧ Box L X Y (X + W - 1) (Y + H - 1) ∧ ∀ x y, x < W → y < H → c x y = L (X + x) (Y + y))
theorem Held.dead {L : Int → Int → Nat} {W H : Nat} {c : Nat → Nat → Nat} {X Y : Int} (h : Held L W H c X Y) : W = 0 ↔ Dead L := by
  rcases h with ⟨h1, h2, h3⟩ | ⟨h1, h2, h3, h4⟩
  · exact ⟨fun _ => h3, fun _ => h1⟩
  · exact ⟨fun h => absurd h (by omega), fun h => absurd h h3.live⟩
theorem Held.unique {L : Int → Int → Nat} {W H W' H' : Nat} {c c' : Nat → Nat → Nat} {X Y X' Y' : Int} (h : Held L W H c X Y) (h' : Held L W' H' c' X' Y') :
    W = W' ∧ H = H' ∧ flat W H c = flat W' H' c' ∧ (0 < W → X = X' ∧ Y = Y') := by
  rcases h with ⟨h1, h2, h3⟩ | ⟨h1, h2, h3, h4⟩
  · rcases h' with ⟨k1, k2, k3⟩ | ⟨k1, k2, k3, k4⟩
    · subst h1 h2 k1 k2
      exact ⟨rfl, rfl, rfl, fun h => absurd h (by omega)⟩
    · exact absurd h3 k3.live
  · rcases h' with ⟨k1, k2, k3⟩ | ⟨k1, k2, k3, k4⟩
    · exact absurd k3 h3.live
    · have hu := h3.unique k3
      obtain rfl : W = W' := by omega
      obtain rfl : H = H' := by omega
      obtain rfl : X = X' := by omega
      obtain rfl : Y = Y' := by omega
      exact ⟨rfl, rfl, flat_congr fun x y hx hy => by rw [h4 x y hx hy, k4 x y hx hy], fun _ => ⟨rfl, rfl⟩⟩
/-- One lives where the other did, so far away. -/
def Came (L0 L : Int → Int → Nat) (u v : Int) : Prop := ∀ x y, L x y = L0 (x - u) (y - v)
theorem Box.moved {L0 L : Int → Int → Nat} {l t r b u v : Int} (h : Box L0 l t r b) (hc : Came L0 L u v) : Box L (l + u) (t + v) (r + u) (b + v) := by
  refine ⟨fun x y hx => ?_, ?_, ?_, ?_, ?_⟩
  · rw [hc] at hx
    have := h.inn _ _ hx
    omega
  · obtain ⟨y, a⟩ := h.le
    exact ⟨y + v, by rw [hc, Int.add_sub_cancel, Int.add_sub_cancel]; exact a⟩
  · obtain ⟨y, a⟩ := h.ri
    exact ⟨y + v, by rw [hc, Int.add_sub_cancel, Int.add_sub_cancel]; exact a⟩
  · obtain ⟨x, a⟩ := h.to
    exact ⟨x + u, by rw [hc, Int.add_sub_cancel, Int.add_sub_cancel]; exact a⟩
  · obtain ⟨x, a⟩ := h.bo
    exact ⟨x + u, by rw [hc, Int.add_sub_cancel, Int.add_sub_cancel]; exact a⟩
theorem box_zero {L : Int → Int → Nat} {l t r b x y : Int} (h : Box L l t r b) (ho : ¬ ((l ≤ x ∧ x ≤ r) ∧ t ≤ y ∧ y ≤ b)) : L x y = 0 := by
  rcases Nat.eq_zero_or_pos (L x y) with h0 | h0
  · exact h0
  · exact absurd (h.inn x y (by omega)) ho
/-- Two patterns are the same just where one came again. -/
theorem came_of_same {L0 L : Int → Int → Nat} {W H : Nat} {c c' : Nat → Nat → Nat} {X Y X' Y' : Int} (h : Held L0 W H c X Y) (h' : Held L W H c' X' Y') (hW : 0 < W) (e : flat W H c = flat W H c') : Came L0 L (X' - X) (Y' - Y) := by
  rcases h with ⟨h1, _⟩ | ⟨h1, h2, h3, h4⟩
  · omega
  rcases h' with ⟨k1, _⟩ | ⟨k1, k2, k3, k4⟩
  · omega
  intro x y
  by_cases ho : (X' ≤ x ∧ x ≤ X' + W - 1) ∧ Y' ≤ y ∧ y ≤ Y' + H - 1
  · obtain ⟨i, hi⟩ := Int.eq_ofNat_of_zero_le (show 0 ≤ x - X' by omega)
    obtain ⟨j, hj⟩ := Int.eq_ofNat_of_zero_le (show 0 ≤ y - Y' by omega)
    have hiW : i < W := by omega
    have hjH : j < H := by omega
    have e1 := k4 i j hiW hjH
    have e2 := h4 i j hiW hjH
    have e3 : c i j = c' i j := by
      have e4 := flat_at (c := c) hiW hjH
      rw [e, flat_at hiW hjH] at e4
      omega
    have x1 : X' + (i : Int) = x := by omega
    have y1 : Y' + (j : Int) = y := by omega
    have x2 : X + (i : Int) = x - (X' - X) := by omega
    have y2 : Y + (j : Int) = y - (Y' - Y) := by omega
    rw [x1, y1] at e1
    rw [x2, y2] at e2
    rw [← e1, ← e2, e3]
  · rw [box_zero k3 ho, box_zero h3 (by omega)]
theorem same_of_came {L0 L : Int → Int → Nat} {W H W' H' : Nat} {c c' : Nat → Nat → Nat} {X Y X' Y' u v : Int} (h : Held L0 W H c X Y) (h' : Held L W' H' c' X' Y') (hW : 0 < W) (hc : Came L0 L u v) :
    W = W' ∧ H = H' ∧ flat W H c = flat W' H' c' ∧ u = X' - X ∧ v = Y' - Y := by
  rcases h with ⟨h1, _⟩ | ⟨h1, h2, h3, h4⟩
  · omega
  have hb := h3.moved hc
  rcases h' with ⟨_, _, k1⟩ | ⟨k1, k2, k3, k4⟩
  · exact absurd k1 hb.live
  have hu := hb.unique k3
  obtain rfl : W = W' := by omega
  obtain rfl : H = H' := by omega
  refine ⟨rfl, rfl, flat_congr fun x y hx hy => ?_, by omega, by omega⟩
  rw [h4 x y hx hy, k4 x y hx hy, hc]
  have x1 : X + (x : Int) = X' + x - u := by omega
  have y1 : Y + (y : Int) = Y' + y - v := by omega
  rw [x1, y1]

/-- TURNED: the one is the other, seen through one of the eight turns and moved. -/
def Mat (a b c d : Int) : Prop := (b = 0 ∧ c = 0 ∧ (a = 1 ∨ a = -1) ∧ (d = 1 ∨ d = -1)) ∨ (a = 0 ∧ d = 0 ∧ (b = 1 ∨ b = -1) ∧ (c = 1 ∨ c = -1))
def Tw (a b c d e f : Int) (L L' : Int → Int → Nat) : Prop := ∀ x y, L' x y = L (a * x + b * y + e) (c * x + d * y + f)
theorem Tw.nx {a b c d e f : Int} {L L' : Int → Int → Nat} (hm : Mat a b c d) (h : Tw a b c d e f L L') (B S : Nat) : Tw a b c d e f (nx B S L) (nx B S L') := by
  intro x y
  have hn : nine L' x y = nine L (a * x + b * y + e) (c * x + d * y + f) := by
    have h9 : ∀ p q : Int, L' (x + p) (y + q) = L (a * x + b * y + e + (a * p + b * q)) (c * x + d * y + f + (c * p + d * q)) := fun p q => by
      rw [h]
      congr 1
      · rw [Int.mul_add, Int.mul_add]; omega
      · rw [Int.mul_add, Int.mul_add]; omega
    generalize a * x + b * y + e = X at *
    generalize c * x + d * y + f = Y at *
    unfold nine
    simp only [h9]
    rcases hm with ⟨rfl, rfl, rfl | rfl, rfl | rfl⟩ | ⟨rfl, rfl, rfl | rfl, rfl | rfl⟩ <;> simp only [Int.reduceMul, Int.reduceAdd, Int.reduceNeg] <;> omega
  unfold Pn.nx
  rw [hn, h x y]
theorem Tw.far {a b c d e f : Int} {L L' : Int → Int → Nat} (hm : Mat a b c d) (h : Tw a b c d e f L L') (B S : Nat) : ∀ n, Tw a b c d e f (far B S L n) (far B S L' n)
  | 0 => h
  | n + 1 => (Tw.far hm h B S n).nx hm B S
/-- What is turned can be turned back. -/
theorem Tw.symm {a b c d e f : Int} {L L' : Int → Int → Nat} (hm : Mat a b c d) (h : Tw a b c d e f L L') : Tw a c b d (-(a * e + c * f)) (-(b * e + d * f)) L' L := by
  intro x y
  rw [h]
  congr 1
  · rcases hm with ⟨rfl, rfl, rfl | rfl, rfl | rfl⟩ | ⟨rfl, rfl, rfl | rfl, rfl | rfl⟩ <;> omega
  · rcases hm with ⟨rfl, rfl, rfl | rfl, rfl | rfl⟩ | ⟨rfl, rfl, rfl | rfl, rfl | rfl⟩ <;> omega
theorem Mat.symm {a b c d : Int} (hm : Mat a b c d) : Mat a c b d := by
  rcases hm with ⟨h1, h2, h3, h4⟩ | ⟨h1, h2, h3, h4⟩
  · exact .inl ⟨h2, h1, h3, h4⟩
  · exact .inr ⟨h1, h2, h4, h3⟩
theorem Tw.dead {a b c d e f : Int} {L L' : Int → Int → Nat} (h : Tw a b c d e f L L') (hd : Dead L) : Dead L' := fun x y => by rw [h]; exact hd _ _
theorem Tw.big {a b c d e f : Int} {L L' : Int → Int → Nat} (hm : Mat a b c d) (h : Tw a b c d e f L L') (hb : Big L) : Big L' := by
  obtain ⟨x, y, x', y', h1, h2, h3⟩ := hb
  have hy := h.symm hm
  rw [hy] at h1 h2
  rcases hm with ⟨rfl, rfl, rfl | rfl, rfl | rfl⟩ | ⟨rfl, rfl, rfl | rfl, rfl | rfl⟩ <;> rcases h3 with h3 | h3 <;> first
    | exact ⟨_, _, _, _, h1, h2, .inl (by omega)⟩
    | exact ⟨_, _, _, _, h1, h2, .inr (by omega)⟩
    | exact ⟨_, _, _, _, h2, h1, .inl (by omega)⟩
    | exact ⟨_, _, _, _, h2, h1, .inr (by omega)⟩
theorem Tw.came {a b c d e f : Int} {L0 L0' L L' : Int → Int → Nat} (hm : Mat a b c d) (h0 : Tw a b c d e f L0 L0') (h : Tw a b c d e f L L') {u v : Int} (hc : Came L0 L u v) : ∃ u' v', Came L0' L' u' v' ∧ u' * u' + v' * v' = u * u + v * v := by
  refine ⟨a * u + c * v, b * u + d * v, fun x y => ?_, ?_⟩
  · rw [h, hc, h0]
    congr 1
    · rcases hm with ⟨rfl, rfl, rfl | rfl, rfl | rfl⟩ | ⟨rfl, rfl, rfl | rfl, rfl | rfl⟩ <;> omega
    · rcases hm with ⟨rfl, rfl, rfl | rfl, rfl | rfl⟩ | ⟨rfl, rfl, rfl | rfl, rfl | rfl⟩ <;> omega
  · rcases hm with ⟨rfl, rfl, rfl | rfl, rfl | rfl⟩ | ⟨rfl, rfl, rfl | rfl, rfl | rfl⟩ <;> simp [Int.add_comm, Int.neg_mul_neg]
/-- Two turns behind each other are one. -/
theorem Tw.trans {a b c d e f a' b' c' d' e' f' : Int} {L L' L'' : Int → Int → Nat} (h : Tw a b c d e f L L') (h' : Tw a' b' c' d' e' f' L' L'') :
    Tw (a * a' + b * c') (a * b' + b * d') (c * a' + d * c') (c * b' + d * d') (a * e' + b * f' + e) (c * e' + d * f' + f) L L'' := by
  intro x y
  rw [h', h]
  congr 1
  · simp only [Int.mul_add, Int.add_mul, Int.mul_assoc]; omega
  · simp only [Int.mul_add, Int.add_mul, Int.mul_assoc]; omega
theorem Mat.mul {a b c d a' b' c' d' : Int} (hm : Mat a b c d) (hm' : Mat a' b' c' d') : Mat (a * a' + b * c') (a * b' + b * d') (c * a' + d * c') (c * b' + d * d') := by
  rcases hm with ⟨rfl, rfl, rfl | rfl, rfl | rfl⟩ | ⟨rfl, rfl, rfl | rfl, rfl | rfl⟩ <;> rcases hm' with ⟨rfl, rfl, rfl | rfl, rfl | rfl⟩ | ⟨rfl, rfl, rfl | rfl, rfl | rfl⟩ <;> unfold Mat <;> decide
/-- Nothing is told of a step: it is not too great, it lives, it is not what was. -/
structure Still (L0 L : Int → Int → Nat) : Prop where
  big : ¬ Big L
  live : ¬ Dead L
  new : ∀ u v, ¬ Came L0 L u v
/-- Behind how many steps it comes again, and how far away: an answer, or it grows too great (4), or it does not (5). -/
inductive Out where
  | full
  | none
  | at (n : Nat) (u v : Int)
def Tells (B S : Nat) (L0 : Int → Int → Nat) (most : Nat) (o : Out) : Prop :=
  (Dead L0 ∧ o = .none) ∨ (¬ Dead L0 ∧ (∀ m, 1 ≤ m → m ≤ most → Still L0 (far B S L0 m)) ∧ o = .none) ∨
  (¬ Dead L0 ∧ ∃ n, 1 ≤ n ∧ n ≤ most ∧ (∀ m, 1 ≤ m → m < n → Still L0 (far B S L0 m)) ∧
    ((Big (far B S L0 n) ∧ o = .full) ∨ (¬ Big (far B S L0 n) ∧ Dead (far B S L0 n) ∧ o = .none) ∨ (¬ Big (far B S L0 n) ∧ ¬ Dead (far B S L0 n) ∧ ∃ u v, Came L0 (far B S L0 n) u v ∧ o = .at n u v)))
/-- What two turned ones tell is alike. -/
def Like : Out → Out → Prop
  | .full, .full => True
  | .none, .none => True
  | .at n u v, .at n' u' v' => n = n' ∧ u * u + v * v = u' * u' + v' * v'
  | _, _ => False
theorem Came.unique {L0 L : Int → Int → Nat} {u v u' v' l t r b : Int} (hb : Box L0 l t r b) (h : Came L0 L u v) (h' : Came L0 L u' v') : u = u' ∧ v = v' := by
  have := (hb.moved h).unique (hb.moved h')
  omega
theorem Tw.still {a b c d e f : Int} {L0 L0' L L' : Int → Int → Nat} (hm : Mat a b c d) (h0 : Tw a b c d e f L0 L0') (h : Tw a b c d e f L L') (hs : Still L0 L) : Still L0' L' where
  big := fun hb => hs.big ((h.symm hm).big hm.symm hb)
  live := fun hd => hs.live ((h.symm hm).dead hd)
  new := fun u v hc => by
    obtain ⟨u', v', h', _⟩ := Tw.came hm.symm (h0.symm hm) (h.symm hm) hc
    exact hs.new _ _ h'
/-- What two turned ones tell is alike. -/
theorem tells_like {B S : Nat} {a b c d e f : Int} {L0 L0' : Int → Int → Nat} {most : Nat} {o o' : Out} (hm : Mat a b c d) (hT : Tw a b c d e f L0 L0') (hB : ¬ Dead L0' → ∃ l t r b, Box L0' l t r b)
    (h : Tells B S L0 most o) (h' : Tells B S L0' most o') : Like o o' := by
  have hF := hT.far hm B S
  have hTs := hT.symm hm
  have hFs := fun n => (hF n).symm hm
  have hms := hm.symm
  have hst : ∀ m, Still L0 (far B S L0 m) → Still L0' (far B S L0' m) := fun m => Tw.still hm hT (hF m)
  have hts : ∀ m, Still L0' (far B S L0' m) → Still L0 (far B S L0 m) := fun m => Tw.still hms hTs (hFs m)
  rcases h with ⟨hd, rfl⟩ | ⟨hd, hs, rfl⟩ | ⟨hd, n, hn1, hn2, hn3, he⟩
  · rcases h' with ⟨kd, rfl⟩ | ⟨kd, _⟩ | ⟨kd, _⟩
    · exact trivial
    · exact absurd (hT.dead hd) kd
    · exact absurd (hT.dead hd) kd
  · rcases h' with ⟨kd, rfl⟩ | ⟨kd, ks, rfl⟩ | ⟨kd, n, kn1, kn2, kn3, ke⟩
    · exact trivial
    · exact trivial
    · have hx := hst n (hs n kn1 kn2)
      rcases ke with ⟨k, _⟩ | ⟨_, k, _⟩ | ⟨_, _, u, v, k, _⟩
      · exact absurd k hx.big
      · exact absurd k hx.live
      · exact absurd k (hx.new u v)
  · rcases h' with ⟨kd, rfl⟩ | ⟨kd, ks, rfl⟩ | ⟨kd, n', kn1, kn2, kn3, ke⟩
    · exact absurd (hTs.dead kd) hd
    · have hx := hts n (ks n hn1 hn2)
      rcases he with ⟨k, _⟩ | ⟨_, k, _⟩ | ⟨_, _, u, v, k, _⟩
      · exact absurd k hx.big
      · exact absurd k hx.live
      · exact absurd k (hx.new u v)
    · have hnn : n = n' := by
        rcases Nat.lt_trichotomy n n' with hl | hl | hl
        · have hx := hts n (kn3 n hn1 hl)
          rcases he with ⟨k, _⟩ | ⟨_, k, _⟩ | ⟨_, _, u, v, k, _⟩
          · exact absurd k hx.big
          · exact absurd k hx.live
          · exact absurd k (hx.new u v)
        · exact hl
        · have hx := hst n' (hn3 n' kn1 hl)
          rcases ke with ⟨k, _⟩ | ⟨_, k, _⟩ | ⟨_, _, u, v, k, _⟩
          · exact absurd k hx.big
          · exact absurd k hx.live
          · exact absurd k (hx.new u v)
      subst hnn
      rcases he with ⟨k1, rfl⟩ | ⟨k1, k2, rfl⟩ | ⟨k1, k2, u, v, k3, rfl⟩ <;> rcases ke with ⟨l1, rfl⟩ | ⟨l1, l2, rfl⟩ | ⟨l1, l2, u', v', l3, rfl⟩
      · exact trivial
      · exact absurd ((hF n).big hm k1) l1
      · exact absurd ((hF n).big hm k1) l1
      · exact absurd ((hFs n).big hms l1) k1
      · exact trivial
      · exact absurd ((hF n).dead k2) l2
      · exact absurd ((hFs n).big hms l1) k1
      · exact absurd ((hFs n).dead l2) k2
      · refine ⟨rfl, ?_⟩
        obtain ⟨u2, v2, h2, e2⟩ := Tw.came hm hT (hF n) k3
        obtain ⟨l, t, r, bo, hb⟩ := hB kd
        obtain ⟨rfl, rfl⟩ := Came.unique hb h2 l3
        exact e2.symm
end Pn
end Go.Proofs.YtgagophijmiceaaDoor
