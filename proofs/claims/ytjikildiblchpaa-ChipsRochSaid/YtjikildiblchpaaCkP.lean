/- RANKS, plain: what can be won; effective divisors by their numbers; the first that is lost. -/
import Derived.Test.YtjikildiblchpaaChPl
import Derived.Test.YtjikildiblchpaaGfM
namespace Go.Proofs.Ytjikildiblchpaa
set_option linter.unusedSimpArgs false
set_option linter.unusedVariables false
open Go.RowKit Go.Lib
namespace Ch
open Tld Mem Rt

/-- What is the same as something that is nowhere in debt. -/
def Win (P : Nat) (w : Nat → Nat → Nat) (D : Nat → Int) : Prop := ∃ E, Eqv P w D E ∧ ∀ k, k < P → 0 ≤ E k
theorem Win.congr {P : Nat} {w : Nat → Nat → Nat} {D D' : Nat → Int} (h : Win P w D) (e : ∀ k, k < P → D k = D' k) : Win P w D' := by
  obtain ⟨E, h1, h2⟩ := h
  exact ⟨E, (Eqv.of_eq fun k hk => (e k hk).symm).trans h1, h2⟩
theorem Win.sum {P : Nat} {w : Nat → Nat → Nat} (hs : ∀ a b, w a b = w b a) {D : Nat → Int} (h : Win P w D) : 0 ≤ sumZ D P := by
  obtain ⟨E, h1, h2⟩ := h
  rw [← h1.sum hs]
  exact sumZ_nonneg h2
theorem win_iff {P : Nat} {w : Nat → Nat → Nat} {D R : Nat → Int} {a : Nat} (ha : a < P) (he : Eqv P w D R) (hr : Reduced P w R a) : Win P w D ↔ 0 ≤ R a := by
  constructor
  · rintro ⟨E, h1, h2⟩
    obtain ⟨σ, hs⟩ := he.symm.trans h1
    have hm := hr.most (fun k hk _ => h2 k hk) hs ha
    have h3 : 0 ≤ lap P w σ a := by
      refine sumZ_nonneg fun o ho => Int.mul_nonneg (Int.natCast_nonneg _) ?_
      have := hm o ho
      omega
    have h4 := hs a ha
    have h5 := h2 a ha
    omega
  · intro h
    refine ⟨R, he, fun k hk => ?_⟩
    by_cases e : k = a
    · rw [e]; exact h
    · exact hr.pos k hk e

theorem sum_pre {F : Nat → Int} {m p : Nat} (h : ∀ k, k < p → 0 ≤ F k) (hm : m ≤ p) : sumZ F m ≤ sumZ F p := by
  induction p with
  | zero => obtain rfl : m = 0 := by omega
            exact Int.le_refl _
  | succ p ih =>
    by_cases e : m = p + 1
    · subst e; exact Int.le_refl _
    · have h1 := ih (fun k hk => h k (by omega)) (by omega)
      have h2 := h p (by omega)
      show _ ≤ sumZ F p + F p
      omega
theorem sum_two {F : Nat → Int} {m i p : Nat} (h : ∀ k, k < p → 0 ≤ F k) (hm : m ≤ i) (hi : i < p) : sumZ F m + F i ≤ sumZ F p := by
  have h1 := sum_pre (F := F) (m := m) (p := i) (fun k hk => h k (by omega)) hm
  have h2 := sum_pre (F := F) (m := i + 1) (p := p) h (by omega)
  have h3 : sumZ F (i + 1) = sumZ F i + F i := rfl
  omega
theorem sum_tail {F : Nat → Int} {m p : Nat} (hm : m ≤ p) (h : ∀ i, m ≤ i → i < p → F i = 0) : sumZ F p = sumZ F m := by
  induction p with
  | zero => obtain rfl : m = 0 := by omega
            rfl
  | succ p ih =>
    by_cases e : m = p + 1
    · subst e; rfl
    · have h1 := ih (by omega) (fun i a b => h i a (by omega))
      have h2 := h p (by omega) (by omega)
      show sumZ F p + F p = _
      omega
theorem sumZ_upd {F : Nat → Int} {i : Nat} {v : Int} : ∀ {p : Nat}, i < p → sumZ (upd F i v) p = sumZ F p - F i + v
  | n + 1, h => by
    show sumZ (upd F i v) n + upd F i v n = sumZ F n + F n - F i + v
    by_cases e : i = n
    · subst e
      rw [upd_at, sumZ_congr (F := upd F i v) (G := F) fun k hk => upd_no (by omega)]
      omega
    · rw [sumZ_upd (p := n) (by omega), upd_no (fun h => e h.symm)]
      omega

/-- Of so many chips, nowhere a debt. -/
structure Eff (p : Nat) (n : Int) (e : Nat → Int) : Prop where
  pos : ∀ k, k < p → 0 ≤ e k
  sum : sumZ e p = n
/-- One stands ahead of the other. -/
def LexL (p : Nat) (a b : Nat → Int) : Prop := ∃ j, j < p ∧ (∀ i, i < j → a i = b i) ∧ a j < b j
theorem lex_total (a b : Nat → Int) : ∀ p, (∀ i, i < p → a i = b i) ∨ LexL p a b ∨ LexL p b a
  | 0 => .inl fun i h => absurd h (Nat.not_lt_zero _)
  | p + 1 => by
    rcases lex_total a b p with h | ⟨j, h1, h2, h3⟩ | ⟨j, h1, h2, h3⟩
    · by_cases e : a p = b p
      · refine .inl fun i hi => ?_
        by_cases e2 : i = p
        · rw [e2]; exact e
        · exact h i (by omega)
      · by_cases l : a p < b p
        · exact .inr (.inl ⟨p, by omega, h, l⟩)
        · exact .inr (.inr ⟨p, by omega, fun i hi => (h i hi).symm, by omega⟩)
    · exact .inr (.inl ⟨j, by omega, h2, h3⟩)
    · exact .inr (.inr ⟨j, by omega, h2, h3⟩)
/-- The first that is lost. -/
structure First (p : Nat) (n : Int) (W : (Nat → Int) → Prop) (e : Nat → Int) : Prop where
  eff : Eff p n e
  lost : ¬ W e
  fst : ∀ e', Eff p n e' → LexL p e' e → W e'
theorem First.unique {p : Nat} {n : Int} {W : (Nat → Int) → Prop} {a b : Nat → Int} (ha : First p n W a) (hb : First p n W b) : ∀ i, i < p → a i = b i := by
  rcases lex_total a b p with h | h | h
  · exact h
  · exact absurd (hb.fst a ha.eff h) ha.lost
  · exact absurd (ha.fst b hb.eff h) hb.lost
/-- All of a degree are won. -/
def AllW (p : Nat) (W : (Nat → Int) → Prop) (n : Int) : Prop := ∀ e, Eff p n e → W e
/-- What the rank is: all of a less degree are won, of this one not. -/
structure RankIs (p : Nat) (W : (Nat → Int) → Prop) (k : Nat) (e : Nat → Int) : Prop where
  less : ∀ j : Nat, j < k → AllW p W (j : Int)
  first : First p (k : Int) W e
theorem RankIs.unique {p : Nat} {W : (Nat → Int) → Prop} {k l : Nat} {a b : Nat → Int} (ha : RankIs p W k a) (hb : RankIs p W l b) : k = l ∧ ∀ i, i < p → a i = b i := by
  have h : k = l := by
    rcases Nat.lt_trichotomy k l with h | h | h
    · exact absurd (hb.less k h a ha.first.eff) ha.first.lost
    · exact h
    · exact absurd (ha.less l h b hb.first.eff) hb.first.lost
  subst h
  exact ⟨rfl, ha.first.unique hb.first⟩

/-- All that begin so are won. -/
def PreW (p : Nat) (n : Int) (W : (Nat → Int) → Prop) (pre : Nat → Int) (k : Nat) : Prop := ∀ e, Eff p n e → (∀ i, i < k → e i = pre i) → W e
/-- All that begin so, and go on with less, are won. -/
def StepW (p : Nat) (n : Int) (W : (Nat → Int) → Prop) (pre : Nat → Int) (k : Nat) (x : Int) : Prop := ∀ e, Eff p n e → (∀ i, i < k → e i = pre i) → e k < x → W e
/-- The first of those that begin so. -/
structure PreF (p : Nat) (n : Int) (W : (Nat → Int) → Prop) (pre : Nat → Int) (k : Nat) (e : Nat → Int) : Prop where
  eff : Eff p n e
  beg : ∀ i, i < k → e i = pre i
  lost : ¬ W e
  fst : ∀ e', Eff p n e' → (∀ i, i < k → e' i = pre i) → LexL p e' e → W e'
theorem PreF.congr {p : Nat} {n : Int} {W : (Nat → Int) → Prop} {pre pre' : Nat → Int} {k : Nat} {e : Nat → Int} (h : PreF p n W pre k e) (g : ∀ i, i < k → pre i = pre' i) : PreF p n W pre' k e := ⟨h.eff, fun i hi => (h.beg i hi).trans (g i hi), h.lost, fun e' a b c => h.fst e' a (fun i hi => (b i hi).trans (g i hi).symm) c⟩
theorem PreW.congr {p : Nat} {n : Int} {W : (Nat → Int) → Prop} {pre pre' : Nat → Int} {k : Nat} (h : PreW p n W pre k) (g : ∀ i, i < k → pre i = pre' i) : PreW p n W pre' k := fun e a b => h e a fun i hi => (b i hi).trans (g i hi).symm
theorem pre_last {p : Nat} {n : Int} {pre e : Nat → Int} (he : Eff (p + 1) n e) (h : ∀ i, i < p → e i = pre i) : e p = n - sumZ pre p := by
  have h1 := he.sum
  have h2 : sumZ e (p + 1) = sumZ e p + e p := rfl
  have h3 := sumZ_congr h
  omega
theorem step_zero {p : Nat} {n : Int} {W : (Nat → Int) → Prop} {pre : Nat → Int} {k : Nat} (hk : k < p) : StepW p n W pre k 0 := fun e he _ h => by
  have := he.pos k hk
  omega
theorem step_end {p : Nat} {n : Int} {W : (Nat → Int) → Prop} {pre : Nat → Int} {k : Nat} (hk : k < p) {x : Int} (h : StepW p n W pre k x) (hx : n - sumZ pre k < x) : PreW p n W pre k := fun e he hp => by
  refine h e he hp ?_
  have h1 := sum_two he.pos (Nat.le_refl k) hk
  have h2 := sumZ_congr hp
  have h3 := he.sum
  omega
theorem step_on {p : Nat} {n : Int} {W : (Nat → Int) → Prop} {pre : Nat → Int} {k : Nat} {x : Int} (h : StepW p n W pre k x) (g : PreW p n W (upd pre k x) (k + 1)) : StepW p n W pre k (x + 1) := fun e he hp hx => by
  by_cases l : e k < x
  · exact h e he hp l
  · refine g e he fun i hi => ?_
    by_cases e1 : i = k
    · rw [e1, upd_at]; omega
    · rw [upd_no e1]; exact hp i (by omega)
theorem step_lost {p : Nat} {n : Int} {W : (Nat → Int) → Prop} {pre : Nat → Int} {k : Nat} {x : Int} {e : Nat → Int} (hk : k < p) (h : StepW p n W pre k x) (g : PreF p n W (upd pre k x) (k + 1) e) : PreF p n W pre k e where
  eff := g.eff
  beg := fun i hi => by rw [g.beg i (by omega), upd_no (by omega)]
  lost := g.lost
  fst := fun e' he hp hl => by
    have hx : e k = x := by rw [g.beg k (by omega), upd_at]
    obtain ⟨j, h1, h2, h3⟩ := hl
    by_cases c1 : j < k
    · have a1 := hp j c1
      have a2 := g.beg j (by omega)
      rw [upd_no (by omega)] at a2
      omega
    · by_cases c2 : j = k
      · subst c2
        exact h e' he hp (by omega)
      · refine g.fst e' he (fun i hi => ?_) ⟨j, h1, h2, h3⟩
        rw [h2 i (by omega)]
        exact g.beg i hi
theorem last_won {p : Nat} {n : Int} {W : (Nat → Int) → Prop} (hW : ∀ a b, (∀ i, i < p + 1 → a i = b i) → W a → W b) {pre : Nat → Int} (h : W (upd pre p (n - sumZ pre p))) : PreW (p + 1) n W pre p := fun e he hp => by
  refine hW _ _ (fun i hi => ?_) h
  by_cases c : i = p
  · rw [c, upd_at, pre_last he hp]
  · rw [upd_no c, hp i (by omega)]
theorem last_lost {p : Nat} {n : Int} {W : (Nat → Int) → Prop} {pre : Nat → Int} (hpos : ∀ i, i < p → 0 ≤ pre i) (hn : 0 ≤ n - sumZ pre p) (h : ¬ W (upd pre p (n - sumZ pre p))) : PreF (p + 1) n W pre p (upd pre p (n - sumZ pre p)) where
  eff := ⟨fun k hk => by
    by_cases c : k = p
    · rw [c, upd_at]; exact hn
    · rw [upd_no c]; exact hpos k (by omega), by
    rw [sumZ_upd (by omega)]
    show sumZ pre p + pre p - _ + _ = _
    omega⟩
  beg := fun i hi => upd_no (by omega)
  lost := h
  fst := fun e' he hp hl => by
    obtain ⟨j, h1, h2, h3⟩ := hl
    by_cases c : j = p
    · rw [c, upd_at, pre_last he hp] at h3
      omega
    · rw [upd_no c, hp j (by omega)] at h3
      omega

/-- The first of a degree. -/
theorem first_none {p : Nat} {n : Int} {e' : Nat → Int} (he : Eff (p + 1) n e') : ¬ LexL (p + 1) e' (upd (fun _ => 0) p n) := by
  rintro ⟨j, h1, h2, h3⟩
  by_cases c : j = p
  · rw [c, upd_at, pre_last (pre := fun _ => 0) he fun i hi => by rw [h2 i (by omega), upd_no (by omega)], sumZ_zero] at h3
    omega
  · rw [upd_no c] at h3
    have := he.pos j h1
    omega
theorem first_eff {p : Nat} {n : Int} (hn : 0 ≤ n) : Eff (p + 1) n (upd (fun _ => 0) p n) := ⟨fun k _ => by
  by_cases c : k = p
  · rw [c, upd_at]; exact hn
  · rw [upd_no c]; exact Int.le_refl _, by rw [sumZ_upd (by omega), sumZ_zero]; omega⟩
/-- Behind the last of a degree there is none. -/
theorem next_none {p : Nat} {n : Int} {e e' : Nat → Int} (he : Eff p n e) (h : ∀ i, 0 < i → i < p → e i = 0) (he' : Eff p n e') : (∀ i, i < p → e' i = e i) ∨ LexL p e' e := by
  by_cases h0 : 0 < p
  · have s1 : sumZ e p = sumZ e 1 := sum_tail (by omega) fun i a b => h i (by omega) b
    have s2 : sumZ e 1 = e 0 := by show 0 + e 0 = _; omega
    have s3 := he.sum
    have s4 := he'.sum
    have s5 := sum_two he'.pos (Nat.zero_le 0) h0
    have s6 : sumZ e' 0 = 0 := rfl
    by_cases c : e' 0 < e 0
    · exact .inr ⟨0, h0, fun i hi => absurd hi (Nat.not_lt_zero _), c⟩
    · refine .inl fun i hi => ?_
      by_cases i0 : i = 0
      · rw [i0]; omega
      · have s7 := sum_two (m := 1) he'.pos (by omega) hi
        have s8 : sumZ e' 1 = e' 0 := by show 0 + e' 0 = _; omega
        have := he'.pos i hi
        rw [h i (by omega) hi]
        omega
  · exact .inl fun i hi => absurd hi (by omega)
/-- What comes next. -/
def nxt (p k : Nat) (e : Nat → Int) : Nat → Int := upd (upd (upd e k 0) (k - 1) (e (k - 1) + 1)) (p - 1) (e k - 1)
theorem nxt_eff {p k : Nat} {n : Int} {e : Nat → Int} (he : Eff p n e) (h0 : 0 < k) (hk : k < p) (hek : e k ≠ 0) (ht : ∀ i, k < i → i < p → e i = 0) : Eff p n (nxt p k e) := by
  have hp := he.pos k hk
  have hp1 := he.pos (k - 1) (by omega)
  refine ⟨fun i hi => ?_, ?_⟩
  · unfold nxt
    by_cases c1 : i = p - 1
    · rw [c1, upd_at]; omega
    · rw [upd_no c1]
      by_cases c2 : i = k - 1
      · rw [c2, upd_at]; omega
      · rw [upd_no c2]
        by_cases c3 : i = k
        · rw [c3, upd_at]; exact Int.le_refl _
        · rw [upd_no c3]; exact he.pos i hi
  · unfold nxt
    rw [sumZ_upd (by omega), sumZ_upd (by omega), sumZ_upd hk, he.sum, upd_no (show p - 1 ≠ k - 1 by omega), upd_no (show k - 1 ≠ k by omega)]
    by_cases c : p - 1 = k
    · rw [c, upd_at]; omega
    · rw [upd_no c, ht (p - 1) (by omega) (by omega)]; omega
theorem nxt_lex {p k : Nat} {n : Int} {e e' : Nat → Int} (he : Eff p n e) (h0 : 0 < k) (hk : k < p) (hek : e k ≠ 0) (ht : ∀ i, k < i → i < p → e i = 0) (he' : Eff p n e') (hl : LexL p e' (nxt p k e)) : (∀ i, i < p → e' i = e i) ∨ LexL p e' e := by
  have hpk := he.pos k hk
  obtain ⟨q, rfl⟩ : ∃ q, p = q + 1 := ⟨p - 1, by omega⟩
  have hne := nxt_eff he h0 hk hek ht
  obtain ⟨j, h1, h2, h3⟩ := hl
  have hlow : ∀ i, i < k - 1 → nxt (q + 1) k e i = e i := fun i hi => by
    unfold nxt
    rw [upd_no (by omega), upd_no (by omega), upd_no (by omega)]
  have hmid : nxt (q + 1) k e (k - 1) = e (k - 1) + 1 := by
    unfold nxt
    rw [upd_no (by omega), upd_at]
  by_cases c1 : j < k - 1
  · refine .inr ⟨j, h1, fun i hi => ?_, ?_⟩
    · rw [h2 i hi, hlow i (by omega)]
    · rw [hlow j c1] at h3; exact h3
  by_cases c2 : j = k - 1
  · subst c2
    rw [hmid] at h3
    have hag : ∀ i, i < k - 1 → e' i = e i := fun i hi => by rw [h2 i hi, hlow i hi]
    by_cases c3 : e' (k - 1) < e (k - 1)
    · exact .inr ⟨k - 1, h1, hag, c3⟩
    · have hag2 : ∀ i, i < k → e' i = e i := fun i hi => by
        by_cases c : i = k - 1
        · rw [c]; omega
        · exact hag i (by omega)
      have s1 := sumZ_congr hag2
      have s2 := sum_two he'.pos (Nat.le_refl k) hk
      have s3 : sumZ e (q + 1) = sumZ e (k + 1) := sum_tail (by omega) fun i a b => ht i (by omega) b
      have s4 : sumZ e (k + 1) = sumZ e k + e k := rfl
      have s5 := he.sum
      have s6 := he'.sum
      by_cases c4 : e' k < e k
      · exact .inr ⟨k, hk, hag2, c4⟩
      · refine .inl fun i hi => ?_
        by_cases c5 : i < k
        · exact hag2 i c5
        · by_cases c6 : i = k
          · rw [c6]; omega
          · have s7 := sum_two (m := k + 1) he'.pos (by omega) hi
            have s8 : sumZ e' (k + 1) = sumZ e' k + e' k := rfl
            have := he'.pos i hi
            rw [ht i (by omega) hi]
            omega
  · exfalso
    by_cases c3 : j = q
    · subst c3
      have s1 := sumZ_congr h2
      have s2 := hne.sum
      have s3 := he'.sum
      have s4 : sumZ e' (j + 1) = sumZ e' j + e' j := rfl
      have s5 : sumZ (nxt (j + 1) k e) (j + 1) = sumZ (nxt (j + 1) k e) j + nxt (j + 1) k e j := rfl
      omega
    · have : nxt (q + 1) k e j = 0 := by
        unfold nxt
        rw [upd_no (by omega), upd_no c2]
        by_cases c4 : j = k
        · rw [c4, upd_at]
        · rw [upd_no c4, ht j (by omega) h1]
      have := he'.pos j h1
      omega
/-- No degree above one's own is won. -/
theorem won_small {p : Nat} {w : Nat → Nat → Nat} (hs : ∀ a b, w a b = w b a) {D : Nat → Int} {n : Int} (hn : 0 ≤ n) (hp : 0 < p) (h : AllW p (fun e => Win p w fun k => D k - e k) n) : n ≤ sumZ D p := by
  obtain ⟨q, rfl⟩ : ∃ q, p = q + 1 := ⟨p - 1, by omega⟩
  have he := first_eff (p := q) hn
  have h1 := (h _ he).sum hs
  rw [sumZ_sub, he.sum] at h1
  omega
end Ch
end Go.Proofs.Ytjikildiblchpaa
