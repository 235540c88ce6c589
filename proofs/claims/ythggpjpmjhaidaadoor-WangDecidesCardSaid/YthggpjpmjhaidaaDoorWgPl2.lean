/- PLAIN (no program in sight): the decision on tiles; windows of a torus. -/
import Derived.Test.YthggpjpmjhaidaaDoorWgPl
namespace Go.Proofs.YthggpjpmjhaidaaDoor
set_option linter.unusedSimpArgs false
set_option linter.unusedVariables false
namespace Wg

theorem tr_hit {α : Type} {f : Nat → Option α} {n i : Nat} {x : α} (hi : i < n) (h : f i = some x) : tr f (n - i) i = some x := by
  rw [show n - i = (n - (i + 1)) + 1 from by omega, tr, h]
theorem tr_miss {α : Type} {f : Nat → Option α} {n i : Nat} (hi : i < n) (h : f i = none) : tr f (n - i) i = tr f (n - (i + 1)) (i + 1) := by
  rw [show n - i = (n - (i + 1)) + 1 from by omega, tr, h]
theorem tr_over {α : Type} {f : Nat → Option α} {n i : Nat} (h : n ≤ i) : tr f (n - i) i = none := by
  rw [show n - i = 0 from by omega]; rfl

/-- What is decided. -/
structure Dec where
  torus : Bool
  wide : Nat
  high : Nat
  cells : List Nat
noncomputable def wideF (T : Nat → Tl) (m n hi wi : Nat) : Option Dec := if wi = n ∨ hi = n then (fillS T m wi hi true).map (fun l => ⟨true, wi, hi, l⟩) else none
noncomputable def highF (T : Nat → Tl) (m n hi : Nat) : Option Dec := tr (wideF T m n hi) (n + 1 - 1) 1
noncomputable def allF (T : Nat → Tl) (m n : Nat) : Option Dec := tr (highF T m n) (n + 1 - 1) 1
noncomputable def sizeF (T : Nat → Tl) (m n : Nat) : Option Dec :=
  match allF T m n with
  | some d => some d
  | none => match fillS T m n n false with
    | none => some ⟨false, n, n, []⟩
    | some _ => none
noncomputable def decS (T : Nat → Tl) (m most : Nat) : Option Dec := tr (sizeF T m) (most + 1 - 1) 1
theorem wideF_skip {T : Nat → Tl} {m n hi wi : Nat} (h : ¬ (wi = n ∨ hi = n)) : wideF T m n hi wi = none := by unfold wideF; rw [if_neg h]
theorem wideF_none {T : Nat → Tl} {m n hi wi : Nat} (h : fillS T m wi hi true = none) : wideF T m n hi wi = none := by
  unfold wideF; rw [h]; split <;> rfl
theorem wideF_some {T : Nat → Tl} {m n hi wi : Nat} {l : List Nat} (hc : wi = n ∨ hi = n) (h : fillS T m wi hi true = some l) : wideF T m n hi wi = some ⟨true, wi, hi, l⟩ := by
  unfold wideF; rw [if_pos hc, h]; rfl
theorem sizeF_all {T : Nat → Tl} {m n : Nat} {d : Dec} (h : allF T m n = some d) : sizeF T m n = some d := by unfold sizeF; rw [h]
theorem sizeF_none {T : Nat → Tl} {m n : Nat} (h : allF T m n = none) (h2 : fillS T m n n false = none) : sizeF T m n = some ⟨false, n, n, []⟩ := by unfold sizeF; rw [h, h2]
theorem sizeF_go {T : Nat → Tl} {m n : Nat} {l : List Nat} (h : allF T m n = none) (h2 : fillS T m n n false = some l) : sizeF T m n = none := by unfold sizeF; rw [h, h2]

/-- What a decision says. -/
structure Dec.Ok (T : Nat → Tl) (m most : Nat) (d : Dec) : Prop where
  w1 : 1 ≤ d.wide
  w2 : d.wide ≤ most
  h1 : 1 ≤ d.high
  h2 : d.high ≤ most
  yes : d.torus = true → fillS T m d.wide d.high true = some d.cells
  no : d.torus = false → d.cells = [] ∧ fillS T m d.wide d.high false = none
theorem wideF_ok {T : Nat → Tl} {m n hi wi most : Nat} {d : Dec} (hn : n ≤ most) (hw : 1 ≤ wi) (hw2 : wi ≤ n) (hh : 1 ≤ hi) (hh2 : hi ≤ n) (h : wideF T m n hi wi = some d) : d.Ok T m most := by
  unfold wideF at h
  split at h
  · cases hf : fillS T m wi hi true with
    | none => rw [hf] at h; cases h
    | some l =>
      rw [hf] at h
      cases h
      exact ⟨hw, by show wi ≤ most; omega, hh, by show hi ≤ most; omega, fun _ => hf, fun h => by cases h⟩
  · cases h
theorem decS_ok {T : Nat → Tl} {m most : Nat} {d : Dec} (h : decS T m most = some d) : d.Ok T m most := by
  unfold decS at h
  obtain ⟨n, hn1, hn2, h⟩ := tr_some h
  unfold sizeF at h
  split at h
  · rename_i d' ha
    cases h
    unfold allF at ha
    obtain ⟨hi, hh1, hh2, ha⟩ := tr_some ha
    unfold highF at ha
    obtain ⟨wi, hw1, hw2, ha⟩ := tr_some ha
    exact wideF_ok (n := n) (by omega) hw1 (by omega) hh1 (by omega) ha
  · split at h
    · rename_i hf
      cases h
      exact ⟨hn1, by show n ≤ most; omega, hn1, by show n ≤ most; omega, (fun h => by cases h), fun _ => ⟨rfl, hf⟩⟩
    · cases h
theorem fillS_some {T : Nat → Tl} {n W H : Nat} {ring : Bool} {l : List Nat} (h : fillS T n W H ring = some l) : Good W H ring (tl T l) ∧ l.length = W * H ∧ ∀ x ∈ l, x < n := by
  unfold fillS at h
  obtain ⟨hp, l', hr, hl, hb⟩ := ff_some h
  rw [List.nil_append] at hr
  subst hr
  exact ⟨hp, hl, hb⟩
theorem fillS_none {T : Nat → Tl} {n W H : Nat} {ring : Bool} (h : fillS T n W H ring = none) (l : List Nat) (hl : l.length = W * H) (hb : ∀ x ∈ l, x < n) : ¬ Good W H ring (tl T l) := by
  unfold fillS at h
  have := ff_all h l hl hb
  rwa [List.nil_append] at this
theorem Good.congr {W H : Nat} {ring : Bool} {t t' : Nat → Tl} (h0 : 0 < W) (h1 : 0 < H) (h : Good W H ring t) (e : ∀ k, k < W * H → t k = t' k) : Good W H ring t' := by
  refine ⟨fun y hy x hx => ?_, fun y hy x hx => ?_, fun hr y hy => ?_, fun hr x hx => ?_⟩
  · rw [← e _ (at_lt (by omega) hy), ← e _ (at_lt hx hy)]; exact h.right y hy x hx
  · rw [← e _ (at_lt hx (by omega)), ← e _ (at_lt hx hy)]; exact h.down y hy x hx
  · have h2 := at_lt (x := 0) h0 hy
    rw [← e _ (at_lt (by omega) hy), ← e _ (by omega)]; exact h.rim hr y hy
  · have h2 := at_lt (y := 0) hx h1
    rw [← e _ (at_lt hx (by omega)), ← e _ (by omega)]; exact h.floor hr x hx
/-- A window of a torus fits. -/
theorem window {W H wide high right down : Nat} {t : Nat → Tl} (hW : 0 < W) (hH : 0 < H) (hg : Good W H true t) :
    Good wide high false (fun k => t ((down + k / wide) % H * W + (right + k % wide) % W)) := by
  refine ⟨fun y hy x hx => ?_, fun y hy x hx => ?_, (fun h => by cases h), (fun h => by cases h)⟩
  · have hx' : x < wide := by omega
    simp only [at_mod hx', at_div hx', at_mod hx, at_div hx]
    have hy' : (down + y) % H < H := Nat.mod_lt _ hH
    rw [← Nat.add_assoc]
    rcases succ_mod (a := right + x) hW with ⟨e, h1⟩ | ⟨e, h1⟩
    · rw [e]
      exact hg.right _ hy' _ h1
    · rw [e, Nat.add_zero, show (right + x) % W = W - 1 from by omega]
      exact hg.rim rfl _ hy'
  · have hx' : (right + x) % W < W := Nat.mod_lt _ hW
    simp only [at_mod hx, at_div hx]
    rw [← Nat.add_assoc]
    rcases succ_mod (a := down + y) hH with ⟨e, h1⟩ | ⟨e, h1⟩
    · rw [e]
      exact hg.down _ h1 _ hx'
    · rw [e, Nat.zero_mul, Nat.zero_add, show (down + y) % H = H - 1 from by omega]
      exact hg.floor rfl _ hx'
end Wg
end Go.Proofs.YthggpjpmjhaidaaDoor
