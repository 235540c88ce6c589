/- Several texts laid together: CkP CkW CkC CkE CkF CkG DkW DkL. -/
import Derived.Test.YtjikildiblchpaaDoorChPl
import Derived.Test.YtjikildiblchpaaDoorGfM
import Derived.Test.YtjikildiblchpaaDoorCrM
import Derived.BigRegion
import Derived.Laws.EntriesVeiled
/- RANKS, plain: what can be won; effective divisors by their numbers; the first that is lost. -/
namespace Go.Proofs.YtjikildiblchpaaDoor
set_option linter.unusedSimpArgs false
set_option linter.unusedVariables false
open Go.RowKit Go.Lib
namespace Ch
open Tld Mem Rt

/-- What is the same as something that is nowhere in debt. -/
def Win (P : Nat) (w : Nat → Nat → Nat) (D : Nat → Int) : Prop := ∃ E, Eqv P w D E ∧ ∀ k, k < P → 0 ≤ E k
theorem Win.congr {P : Nat} {w : Nat → Nat → Nat} {D D' : Nat → Int} (h : Win P w D) (e : ∀ k, k < P → D k = D' k) : Win P w D' := by
  obtain ⟨E, h1, h2⟩ := h
  exact ⟨E, (Eqv.of_eq fun k hk => (e k hk).symm).trans h1, h2⟩
theorem Win.sum {P : Nat} {w : Nat → Nat → Nat} (hs : ∀ a b, w a b = w b a) {D : Nat → Int} (h : Win P w D) : 0 ≤ sumZ D P := by
  obtain ⟨E, h1, h2⟩ := h
  rw [← h1.sum hs]
  exact sumZ_nonneg h2
theorem win_iff {P : Nat} {w : Nat → Nat → Nat} {D R : Nat → Int} {a : Nat} (ha : a < P) (he : Eqv P w D R) (hr : Reduced P w R a) : Win P w D ↔ 0 ≤ R a := by
  constructor
  · rintro ⟨E, h1, h2⟩
    obtain ⟨σ, hs⟩ := he.symm.trans h1
    have hm := hr.most (fun k hk _ => h2 k hk) hs ha
    have h3 : 0 ≤ lap P w σ a := by
      refine sumZ_nonneg fun o ho => Int.mul_nonneg (Int.natCast_nonneg _) ?_
      have := hm o ho
      omega
    have h4 := hs a ha
    have h5 := h2 a ha
    omega
  · intro h
    refine ⟨R, he, fun k hk => ?_⟩
    by_cases e : k = a
    · rw [e]; exact h
    · exact hr.pos k hk e

theorem sum_pre {F : Nat → Int} {m p : Nat} (h : ∀ k, k < p → 0 ≤ F k) (hm : m ≤ p) : sumZ F m ≤ sumZ F p := by
  induction p with
  | zero => obtain rfl : m = 0 := by omega
            exact Int.le_refl _
  | succ p ih =>
    by_cases e : m = p + 1
    · subst e; exact Int.le_refl _
    · have h1 := ih (fun k hk => h k (by omega)) (by omega)
      have h2 := h p (by omega)
      show _ ≤ sumZ F p + F p
      omega
theorem sum_two {F : Nat → Int} {m i p : Nat} (h : ∀ k, k < p → 0 ≤ F k) (hm : m ≤ i) (hi : i < p) : sumZ F m + F i ≤ sumZ F p := by
  have h1 := sum_pre (F := F) (m := m) (p := i) (fun k hk => h k (by omega)) hm
  have h2 := sum_pre (F := F) (m := i + 1) (p := p) h (by omega)
  have h3 : sumZ F (i + 1) = sumZ F i + F i := rfl
  omega
theorem sum_tail {F : Nat → Int} {m p : Nat} (hm : m ≤ p) (h : ∀ i, m ≤ i → i < p → F i = 0) : sumZ F p = sumZ F m := by
  induction p with
  | zero => obtain rfl : m = 0 := by omega
            rfl
  | succ p ih =>
    by_cases e : m = p + 1
    · subst e; rfl
    · have h1 := ih (by omega) (fun i a b => h i a (by omega))
      have h2 := h p (by omega) (by omega)
      show sumZ F p + F p = _
      omega
theorem sumZ_upd {F : Nat → Int} {i : Nat} {v : Int} : ∀ {p : Nat}, i < p → sumZ (upd F i v) p = sumZ F p - F i + v
  | n + 1, h => by
    show sumZ (upd F i v) n + upd F i v n = sumZ F n + F n - F i + v
    by_cases e : i = n
    · subst e
      rw [upd_at, sumZ_congr (F := upd F i v) (G := F) fun k hk => upd_no (by omega)]
      omega
    · rw [sumZ_upd (p := n) (by omega), upd_no (fun h => e h.symm)]
      omega

/-- Of so many chips, nowhere a debt. -/
structure Eff (p : Nat) (n : Int) (e : Nat → Int) : Prop where
  pos : ∀ k, k < p → 0 ≤ e k
  sum : sumZ e p = n
/-- One stands ahead of the other. -/
def LexL (p : Nat) (a b : Nat → Int) : Prop := ∃ j, j < p ∧ (∀ i, i < j → a i = b i) ∧ a j < b j
theorem lex_total (a b : Nat → Int) : ∀ p, (∀ i, i < p → a i = b i) ∨ LexL p a b ∨ LexL p b a
  | 0 => .inl fun i h => absurd h (Nat.not_lt_zero _)
  | p + 1 => by
    rcases lex_total a b p with h | ⟨j, h1, h2, h3⟩ | ⟨j, h1, h2, h3⟩
    · by_cases e : a p = b p
      · refine .inl fun i hi => ?_
        by_cases e2 : i = p
        · rw [e2]; exact e
        · exact h i (by omega)
      · by_cases l : a p < b p
        · exact .inr (.inl ⟨p, by omega, h, l⟩)
        · exact .inr (.inr ⟨p, by omega, fun i hi => (h i hi).symm, by omega⟩)
    · exact .inr (.inl ⟨j, by omega, h2, h3⟩)
    · exact .inr (.inr ⟨j, by omega, h2, h3⟩)
/-- The first that is lost. -/
structure First (p : Nat) (n : Int) (W : (Nat → Int) → Prop) (e : Nat → Int) : Prop where
  eff : Eff p n e
  lost : ¬ W e
  fst : ∀ e', Eff p n e' → LexL p e' e → W e'
theorem First.unique {p : Nat} {n : Int} {W : (Nat → Int) → Prop} {a b : Nat → Int} (ha : First p n W a) (hb : First p n W b) : ∀ i, i < p → a i = b i := by
  rcases lex_total a b p with h | h | h
  · exact h
  · exact absurd (hb.fst a ha.eff h) ha.lost
  · exact absurd (ha.fst b hb.eff h) hb.lost
/-- All of a degree are won. -/
def AllW (p : Nat) (W : (Nat → Int) → Prop) (n : Int) : Prop := ∀ e, Eff p n e → W e
/-- What the rank is: all of a less degree are won, of this one not. -/
structure RankIs (p : Nat) (W : (Nat → Int) → Prop) (k : Nat) (e : Nat → Int) : Prop where
  less : ∀ j : Nat, j < k → AllW p W (j : Int)
  first : First p (k : Int) W e
theorem RankIs.unique {p : Nat} {W : (Nat → Int) → Prop} {k l : Nat} {a b : Nat → Int} (ha : RankIs p W k a) (hb : RankIs p W l b) : k = l ∧ ∀ i, i < p → a i = b i := by
  have h : k = l := by
    rcases Nat.lt_trichotomy k l with h | h | h
    · exact absurd (hb.less k h a ha.first.eff) ha.first.lost
    · exact h
    · exact absurd (ha.less l h b hb.first.eff) hb.first.lost
  subst h
  exact ⟨rfl, ha.first.unique hb.first⟩

/-- All that begin so are won. -/
def PreW (p : Nat) (n : Int) (W : (Nat → Int) → Prop) (pre : Nat → Int) (k : Nat) : Prop := ∀ e, Eff p n e → (∀ i, i < k → e i = pre i) → W e
/-- All that begin so, and go on with less, are won. -/
def StepW (p : Nat) (n : Int) (W : (Nat → Int) → Prop) (pre : Nat → Int) (k : Nat) (x : Int) : Prop := ∀ e, Eff p n e → (∀ i, i < k → e i = pre i) → e k < x → W e
/-- The first of those that begin so. -/
structure PreF (p : Nat) (n : Int) (W : (Nat → Int) → Prop) (pre : Nat → Int) (k : Nat) (e : Nat → Int) : Prop where
  eff : Eff p n e
  beg : ∀ i, i < k → e i = pre i
  lost : ¬ W e
  fst : ∀ e', Eff p n e' → (∀ i, i < k → e' i = pre i) → LexL p e' e → W e'
theorem PreF.congr {p : Nat} {n : Int} {W : (Nat → Int) → Prop} {pre pre' : Nat → Int} {k : Nat} {e : Nat → Int} (h : PreF p n W pre k e) (g : ∀ i, i < k → pre i = pre' i) : PreF p n W pre' k e := ⟨h.eff, fun i hi => (h.beg i hi).trans (g i hi), h.lost, fun e' a b c => h.fst e' a (fun i hi => (b i hi).trans (g i hi).symm) c⟩
theorem PreW.congr {p : Nat} {n : Int} {W : (Nat → Int) → Prop} {pre pre' : Nat → Int} {k : Nat} (h : PreW p n W pre k) (g : ∀ i, i < k → pre i = pre' i) : PreW p n W pre' k := fun e a b => h e a fun i hi => (b i hi).trans (g i hi).symm
theorem pre_last {p : Nat} {n : Int} {pre e : Nat → Int} (he : Eff (p + 1) n e) (h : ∀ i, i < p → e i = pre i) : e p = n - sumZ pre p := by
  have h1 := he.sum
  have h2 : sumZ e (p + 1) = sumZ e p + e p := rfl
  have h3 := sumZ_congr h
  omega
theorem step_zero {p : Nat} {n : Int} {W : (Nat → Int) → Prop} {pre : Nat → Int} {k : Nat} (hk : k < p) : StepW p n W pre k 0 := fun e he _ h => by
  have := he.pos k hk
  omega
theorem step_end {p : Nat} {n : Int} {W : (Nat → Int) → Prop} {pre : Nat → Int} {k : Nat} (hk : k < p) {x : Int} (h : StepW p n W pre k x) (hx : n - sumZ pre k < x) : PreW p n W pre k := fun e he hp => by
  refine h e he hp ?_
  have h1 := sum_two he.pos (Nat.le_refl k) hk
  have h2 := sumZ_congr hp
  have h3 := he.sum
  omega
theorem step_on {p : Nat} {n : Int} {W : (Nat → Int) → Prop} {pre : Nat → Int} {k : Nat} {x : Int} (h : StepW p n W pre k x) (g : PreW p n W (upd pre k x) (k + 1)) : StepW p n W pre k (x + 1) := fun e he hp hx => by
  by_cases l : e k < x
  · exact h e he hp l
  · refine g e he fun i hi => ?_
    by_cases e1 : i = k
    · rw [e1, upd_at]; omega
    · rw [upd_no e1]; exact hp i (by omega)
theorem step_lost {p : Nat} {n : Int} {W : (Nat → Int) → Prop} {pre : Nat → Int} {k : Nat} {x : Int} {e : Nat → Int} (hk : k < p) (h : StepW p n W pre k x) (g : PreF p n W (upd pre k x) (k + 1) e) : PreF p n W pre k e where
  eff := g.eff
  beg := fun i hi => by rw [g.beg i (by omega), upd_no (by omega)]
  lost := g.lost
  fst := fun e' he hp hl => by
    have hx : e k = x := by rw [g.beg k (by omega), upd_at]
    obtain ⟨j, h1, h2, h3⟩ := hl
    by_cases c1 : j < k
    · have a1 := hp j c1
      have a2 := g.beg j (by omega)
      rw [upd_no (by omega)] at a2
      omega
    · by_cases c2 : j = k
      · subst c2
        exact h e' he hp (by omega)
      · refine g.fst e' he (fun i hi => ?_) ⟨j, h1, h2, h3⟩
        rw [h2 i (by omega)]
        exact g.beg i hi
theorem last_won {p : Nat} {n : Int} {W : (Nat → Int) → Prop} (hW : ∀ a b, (∀ i, i < p + 1 → a i = b i) → W a → W b) {pre : Nat → Int} (h : W (upd pre p (n - sumZ pre p))) : PreW (p + 1) n W pre p := fun e he hp => by
  refine hW _ _ (fun i hi => ?_) h
  by_cases c : i = p
  · rw [c, upd_at, pre_last he hp]
  · rw [upd_no c, hp i (by omega)]
theorem last_lost {p : Nat} {n : Int} {W : (Nat → Int) → Prop} {pre : Nat → Int} (hpos : ∀ i, i < p → 0 ≤ pre i) (hn : 0 ≤ n - sumZ pre p) (h : ¬ W (upd pre p (n - sumZ pre p))) : PreF (p + 1) n W pre p (upd pre p (n - sumZ pre p)) where
  eff := ⟨fun k hk => by
    by_cases c : k = p
    · rw [c, upd_at]; exact hn
    · rw [upd_no c]; exact hpos k (by omega), by
    rw [sumZ_upd (by omega)]
    show sumZ pre p + pre p - _ + _ = _
    omega⟩
  beg := fun i hi => upd_no (by omega)
  lost := h
  fst := fun e' he hp hl => by
    obtain ⟨j, h1, h2, h3⟩ := hl
    by_cases c : j = p
    · rw [c, upd_at, pre_last he hp] at h3
      omega
    · rw [upd_no c, hp j (by omega)] at h3
      omega

/-- The first of a degree. -/
theorem first_none {p : Nat} {n : Int} {e' : Nat → Int} (he : Eff (p + 1) n e') : ¬ LexL (p + 1) e' (upd (fun _ => 0) p n) := by
  rintro ⟨j, h1, h2, h3⟩
  by_cases c : j = p
  · rw [c, upd_at, pre_last (pre := fun _ => 0) he fun i hi => by rw [h2 i (by omega), upd_no (by omega)], sumZ_zero] at h3
    omega
  · rw [upd_no c] at h3
    have := he.pos j h1
    omega
theorem first_eff {p : Nat} {n : Int} (hn : 0 ≤ n) : Eff (p + 1) n (upd (fun _ => 0) p n) := ⟨fun k _ => by
  by_cases c : k = p
  · rw [c, upd_at]; exact hn
  · rw [upd_no c]; exact Int.le_refl _, by rw [sumZ_upd (by omega), sumZ_zero]; omega⟩
/-- Behind the last of a degree there is none. -/
theorem next_none {p : Nat} {n : Int} {e e' : Nat → Int} (he : Eff p n e) (h : ∀ i, 0 < i → i < p → e i = 0) (he' : Eff p n e') : (∀ i, i < p → e' i = e i) ∨ LexL p e' e := by
  by_cases h0 : 0 < p
  · have s1 : sumZ e p = sumZ e 1 := sum_tail (by omega) fun i a b => h i (by omega) b
    have s2 : sumZ e 1 = e 0 := by show 0 + e 0 = _; omega
    have s3 := he.sum
    have s4 := he'.sum
    have s5 := sum_two he'.pos (Nat.zero_le 0) h0
    have s6 : sumZ e' 0 = 0 := rfl
    by_cases c : e' 0 < e 0
    · exact .inr ⟨0, h0, fun i hi => absurd hi (Nat.not_lt_zero _), c⟩
    · refine .inl fun i hi => ?_
      by_cases i0 : i = 0
      · rw [i0]; omega
      · have s7 := sum_two (m := 1) he'.pos (by omega) hi
        have s8 : sumZ e' 1 = e' 0 := by show 0 + e' 0 = _; omega
        have := he'.pos i hi
        rw [h i (by omega) hi]
        omega
  · exact .inl fun i hi => absurd hi (by omega)
/-- What comes next. -/
def nxt (p k : Nat) (e : Nat → Int) : Nat → Int := upd (upd (upd e k 0) (k - 1) (e (k - 1) + 1)) (p - 1) (e k - 1)
theorem nxt_eff {p k : Nat} {n : Int} {e : Nat → Int} (he : Eff p n e) (h0 : 0 < k) (hk : k < p) (hek : e k ≠ 0) (ht : ∀ i, k < i → i < p → e i = 0) : Eff p n (nxt p k e) := by
  have hp := he.pos k hk
  have hp1 := he.pos (k - 1) (by omega)
  refine ⟨fun i hi => ?_, ?_⟩
  · unfold nxt
    by_cases c1 : i = p - 1
    · rw [c1, upd_at]; omega
    · rw [upd_no c1]
      by_cases c2 : i = k - 1
      · rw [c2, upd_at]; omega
      · rw [upd_no c2]
        by_cases c3 : i = k
        · rw [c3, upd_at]; exact Int.le_refl _
        · rw [upd_no c3]; exact he.pos i hi
  · unfold nxt
    rw [sumZ_upd (by omega), sumZ_upd (by omega), sumZ_upd hk, he.sum, upd_no (show p - 1 ≠ k - 1 by omega), upd_no (show k - 1 ≠ k by omega)]
    by_cases c : p - 1 = k
    · rw [c, upd_at]; omega
    · rw [upd_no c, ht (p - 1) (by omega) (by omega)]; omega
theorem nxt_lex {p k : Nat} {n : Int} {e e' : Nat → Int} (he : Eff p n e) (h0 : 0 < k) (hk : k < p) (hek : e k ≠ 0) (ht : ∀ i, k < i → i < p → e i = 0) (he' : Eff p n e') (hl : LexL p e' (nxt p k e)) : (∀ i, i < p → e' i = e i) ∨ LexL p e' e := by
  have hpk := he.pos k hk
  obtain ⟨q, rfl⟩ : ∃ q, p = q + 1 := ⟨p - 1, by omega⟩
  have hne := nxt_eff he h0 hk hek ht
  obtain ⟨j, h1, h2, h3⟩ := hl
  have hlow : ∀ i, i < k - 1 → nxt (q + 1) k e i = e i := fun i hi => by
    unfold nxt
    rw [upd_no (by omega), upd_no (by omega), upd_no (by omega)]
  have hmid : nxt (q + 1) k e (k - 1) = e (k - 1) + 1 := by
    unfold nxt
    rw [upd_no (by omega), upd_at]
  by_cases c1 : j < k - 1
  · refine .inr ⟨j, h1, fun i hi => ?_, ?_⟩
    · rw [h2 i hi, hlow i (by omega)]
    · rw [hlow j c1] at h3; exact h3
  by_cases c2 : j = k - 1
  · subst c2
    rw [hmid] at h3
    have hag : ∀ i, i < k - 1 → e' i = e i := fun i hi => by rw [h2 i hi, hlow i hi]
    by_cases c3 : e' (k - 1) < e (k - 1)
    · exact .inr ⟨k - 1, h1, hag, c3⟩
    · have hag2 : ∀ i, i < k → e' i = e i := fun i hi => by
        by_cases c : i = k - 1
        · rw [c]; omega
        · exact hag i (by omega)
      have s1 := sumZ_congr hag2
      have s2 := sum_two he'.pos (Nat.le_refl k) hk
      have s3 : sumZ e (q + 1) = sumZ e (k + 1) := sum_tail (by omega) fun i a b => ht i (by omega) b
      have s4 : sumZ e (k + 1) = sumZ e k + e k := rfl
      have s5 := he.sum
      have s6 := he'.sum
      by_cases c4 : e' k < e k
      · exact .inr ⟨k, hk, hag2, c4⟩
      · refine .inl fun i hi => ?_
        by_cases c5 : i < k
        · exact hag2 i c5
        · by_cases c6 : i = k
          · rw [c6]; omega
          · have s7 := sum_two (m := k + 1) he'.pos (by omega) hi
            have s8 : sumZ e' (k + 1) = sumZ e' k + e' k := rfl
            have := he'.pos i hi
            rw [ht i (by omega) hi]
            omega
  · exfalso
    by_cases c3 : j = q
    · subst c3
      have s1 := sumZ_congr h2
      have s2 := hne.sum
      have s3 := he'.sum
      have s4 : sumZ e' (j + 1) = sumZ e' j + e' j := rfl
      have s5 : sumZ (nxt (j + 1) k e) (j + 1) = sumZ (nxt (j + 1) k e) j + nxt (j + 1) k e j := rfl
      omega
    · have : nxt (q + 1) k e j = 0 := by
        unfold nxt
        rw [upd_no (by omega), upd_no c2]
        by_cases c4 : j = k
        · rw [c4, upd_at]
        · rw [upd_no c4, ht j (by omega) h1]
      have := he'.pos j h1
      omega
/-- No degree above one's own is won. -/
theorem won_small {p : Nat} {w : Nat → Nat → Nat} (hs : ∀ a b, w a b = w b a) {D : Nat → Int} {n : Int} (hn : 0 ≤ n) (hp : 0 < p) (h : AllW p (fun e => Win p w fun k => D k - e k) n) : n ≤ sumZ D p := by
  obtain ⟨q, rfl⟩ : ∃ q, p = q + 1 := ⟨p - 1, by omega⟩
  have he := first_eff (p := q) hn
  have h1 := (h _ he).sum hs
  rw [sumZ_sub, he.sum] at h1
  omega
end Ch
end Go.Proofs.YtjikildiblchpaaDoor

/- WALK: chips.sum of any list, chips.wins. -/
namespace Go.Proofs.YtjikildiblchpaaDoor
set_option linter.unusedSimpArgs false
set_option linter.unusedVariables false
open Go.RowKit Go.Lib
namespace Ch
open Tld Mem Rt

theorem wrap_sum {zs : List Int} {p : Nat} (hp : p ≤ 10) (h : ∀ k, k < p → -1100 ≤ zs.getD k 0 ∧ zs.getD k 0 ≤ 1100) : wrap64 (sumZ (fun k => zs.getD k 0) p) = sumZ (fun k => zs.getD k 0) p := by
  have := sum_small (D := fun k => zs.getD k 0) h
  unfold wrap64
  omega
set_option maxHeartbeats 8000000 in
theorem csum_any (ca : Option Addr) (n cc : Nat) (zs : List Int) (w : World) (hC : Ints.Is w ca n zs) (hn : n ≤ 10) :
    Calls Tryd.prog 37 #[.slice ca n cc] w fun e w' => e = .returned (.int .i64 (wrap64 (sumZ (fun k => zs.getD k 0) n))) ∧ w' = w := by
  have HC := Lib.hid hC
  clear hC
  go_enter Tryd.func37, Tryd.ntmps37
  go_wp2_with fail
  go_loopw [2, 7] (fun z u wr => ∃ k : Nat, k ≤ n ∧ z = .int .i64 (wrap64 (sumZ (fun k => zs.getD k 0) k)) ∧ u = .int .i64 (k : Int) ∧ wr = w) (fun _ u _ => n - (intOf u).toNat)
  case atStart => exact ⟨0, Nat.zero_le _, (show Value.int .i64 0 = Value.int .i64 (wrap64 0) by rw [show wrap64 0 = 0 from by unfold wrap64; omega]), rfl, rfl⟩
  case round =>
    obtain ⟨k, hkn, rfl, rfl, rfl⟩ := hrel
    by_cases hk : k < n
    · have hk2 : (k : Int) < (n : Int) := by omega
      obtain ⟨bz, oz, rfl, _, hcz⟩ := HC.out.cells k hk
      dsimp only at hcz
      have HNX : Hid (wrap64 (sumZ (fun k => zs.getD k 0) (k + 1)) = wrap64 (wrap64 (sumZ (fun k => zs.getD k 0) k) + zs.getD k 0)) := by
        show _ = _
        rw [wrap_add]; rfl
      obtain ⟨s, hs⟩ : ∃ s, s = wrap64 (sumZ (fun k => zs.getD k 0) k) := ⟨_, rfl⟩
      rw [← hs] at HNX ⊢
      clear hs
      obtain ⟨x, hx⟩ : ∃ x, x = zs.getD k 0 := ⟨_, rfl⟩
      rw [← hx] at HNX hcz
      clear hx
      go_wp2_with fail
      go_roundw
      case rel => exact ⟨k + 1, by omega, by rw [HNX.out], by go_num, by trivial⟩
      case measure => simp [intOf]; omega
    · obtain rfl : k = n := by omega
      go_wp2_with fail
      go_ret
      exact ⟨rfl, rfl⟩

def WinPost (P : Nat) (E : Nat → Nat → Nat) (D : Nat → Int) (w : World) (e : Ending) (w' : World) : Prop := (∃ q : Bool, e = .returned (.bool q) ∧ (q = true ↔ Win P E D)) ∧ Below w.heap.size w w'
theorem win_post {P : Nat} {E : Nat → Nat → Nat} {D : Nat → Int} {w w' : World} (q : Bool) (h : q = true ↔ Win P E D) (hb : Below w.heap.size w w') : WinPost P E D w (.returned (.bool q)) w' := ⟨⟨q, rfl, h⟩, hb⟩
set_option maxHeartbeats 8000000 in
set_option maxRecDepth 1000000 in
theorem cwins_any (P : Nat) (E : Nat → Nat → Nat) (Dg : Nat → Nat) (bn : Nat) (da : Option Addr) (dc : Nat) (zs : List Int) (w0 w : World) (hG : Gr P E) (h0 : 0 < P) (hN : Net w0 bn P E Dg) (hB : Below w0.heap.size w0 w) (hD : Ints.Is w da P zs) (hz : ∀ k, k < P → -1100 ≤ zs.getD k 0 ∧ zs.getD k 0 ≤ 1100) :
    Calls Tryd.prog 41 #[.pointer (some ⟨bn, 0, none⟩), .slice da P dc] w (WinPost P E (fun k => zs.getD k 0) w) := by
  have hP := hG.p10
  have HS := Lib.hid (csum_any da P dc zs w hD hP)
  rw [wrap_sum hP hz] at HS
  have HR := Lib.hid (reduced_any P 0 E Dg bn da dc zs w0 w hG h0 hN hB hD hz)
  have HWS : Hid (Win P E (fun k => zs.getD k 0) → 0 ≤ sumZ (fun k => zs.getD k 0) P) := fun h => h.sum hG.sym
  clear hG hN hB hD hz
  obtain ⟨s, hs⟩ : ∃ s, s = sumZ (fun k => zs.getD k 0) P := ⟨_, rfl⟩
  rw [← hs] at HS HWS
  clear hs
  by_cases hs0 : 0 ≤ s
  · go_enter Tryd.func41, Tryd.ntmps41
    go_wp2_with fail
    refine HS.out.mono ?_
    rintro e1 w1 ⟨rfl, rfl⟩
    go_wp2_with fail
    refine HR.out.mono ?_
    rintro e1 w2 ⟨b, c, R, rfl, _, hv, he, hr, _, hx⟩
    have HQ : Hid (∀ q : Bool, (q = true ↔ 0 ≤ R 0) → (q = true ↔ Win P E fun k => zs.getD k 0)) := fun q hq => hq.trans (win_iff h0 he hr).symm
    have HB2 : Hid (Below w1.heap.size w1 w2) := hx
    have c1 := hv.cell h0
    clear hv he hr hx HS HR HWS
    generalize R 0 = r at *
    go_wp2_with fail
    go_ret
    exact win_post (decide (0 ≤ r)) (HQ.out _ decide_eq_true_iff) HB2.out
  · go_enter Tryd.func41, Tryd.ntmps41
    go_wp2_with fail
    refine HS.out.mono ?_
    rintro e1 w1 ⟨rfl, rfl⟩
    go_wp2_with fail
    go_ret
    exact win_post false ⟨fun h => (by cases h), fun h => absurd (HWS.out h) (by omega)⟩ (Below.refl _ _)
/-- What is won: so much taken from a divisor. -/
def Tak (P : Nat) (E : Nat → Nat → Nat) (zs : List Int) (e : Nat → Int) : Prop := Win P E fun k => zs.getD k 0 - e k
theorem Tak.congr {P : Nat} {E : Nat → Nat → Nat} {zs : List Int} {a b : Nat → Int} (g : ∀ k, k < P → a k = b k) (h : Tak P E zs a) : Tak P E zs b := Win.congr h fun k hk => by rw [g k hk]
end Ch
end Go.Proofs.YtjikildiblchpaaDoor

/- WALK: the closure of chips.Rank: what is left of a divisor, whether it is won; else what was taken. -/
namespace Go.Proofs.YtjikildiblchpaaDoor
set_option linter.unusedSimpArgs false
set_option linter.unusedVariables false
open Go.RowKit Go.Lib
namespace Ch
open Tld Mem Rt

/-- What the closure gives. -/
def CloPost (P : Nat) (E : Nat → Nat → Nat) (zs : List Int) (F : Nat → Int) (xl : Nat) (w : World) (e : Ending) (w' : World) : Prop :=
  (e = .returned (.bool true) ∧ Win P E (fun k => zs.getD k 0 - F k) ∧ Below w.heap.size w w') ∨
  (e = .returned (.bool false) ∧ ¬ Win P E (fun k => zs.getD k 0 - F k) ∧ ∃ (w1 : World) (a : Option Addr) (c : Nat), Below w.heap.size w w1 ∧ Only xl w1 w' ∧ Row w' xl 25 [.slice a P c] ∧ Ints.Is w' a P (lstF P F))

set_option maxHeartbeats 8000000 in
set_option maxRecDepth 1000000 in
theorem clo_any (P : Nat) (E : Nat → Nat → Nat) (Dg : Nat → Nat) (bn : Nat) (da : Option Addr) (dc : Nat) (zs : List Int) (w0 w : World) (xd xn xl be : Nat) (F : Nat → Int) (v : Value) (hG : Gr P E) (h0 : 0 < P) (hN : Net w0 bn P E Dg) (hB : Below w0.heap.size w0 w)
    (hxd : w.cell? ⟨xd, 0, none⟩ = some (.slice da P dc)) (hxn : w.cell? ⟨xn, 0, none⟩ = some (.pointer (some ⟨bn, 0, none⟩))) (hD : Ints.Is w da P zs) (hz : ∀ k, k < P → -1000 ≤ zs.getD k 0 ∧ zs.getD k 0 ≤ 1000) (hV : Vec w be P F) (hF : ∀ k, k < P → 0 ≤ F k ∧ F k ≤ 100) (hL : Row w xl 25 [v]) :
    Calls Tryd.prog 39 #[.slice (some ⟨be, 0, none⟩) P P, .pointer (some ⟨xd, 0, none⟩), .pointer (some ⟨xn, 0, none⟩), .pointer (some ⟨xl, 0, none⟩)] w (CloPost P E zs F xl w) := by
  have hP := hG.p10
  have HP1 : Hid (P ≤ maxLen) := by unfold maxLen; show _ ≤ _; omega
  have hdn : da = none → P = 0 := fun h => by
    obtain ⟨b, off, e, _⟩ := hD.cells 0 (by omega)
    rw [h] at e; cases e
  have HCL := Lib.hid (clone_any da P dc zs w hD.len (by omega) hD.cells hdn)
  have HDL := Lib.hid hD.len
  have HG := Lib.hid hG
  have HN := Lib.hid hN
  have HB0 := Lib.hid hB
  have HZ := Lib.hid hz
  have HV := Lib.hid hV
  have HF := Lib.hid hF
  have HL := Lib.hid hL
  have HXN := Lib.hid hxn
  clear hG hN hB hD hz hdn hV hF hL hxn
  go_enter Tryd.func39, Tryd.ntmps39
  go_wp2_with fail
  refine HCL.out.mono ?_
  rintro e1 w1 ⟨v1, rfl, hown, hb1⟩
  obtain ⟨b1, c1, rfl⟩ : ∃ b c, v1 = .slice (some ⟨b, 0, none⟩) P c := by
    rcases hown.2 with ⟨_, h1⟩ | ⟨g, cap, cur, h1, _⟩
    · omega
    · exact ⟨g, cap, h1⟩
  have HR1 := Lib.hid (vec_own hown HDL.out)
  have hb1w : w.heap.size ≤ b1 := own_low hown b1 rfl
  have HB1 := Lib.hid hb1
  clear hown hb1 HCL hxd
  go_wp2_with fail
  go_loopw [12] (fun z wr => ∃ k : Nat, k ≤ P ∧ z = .int .i64 (k : Int) ∧ Vec wr b1 P (fun j => if j < k then zs.getD j 0 - F j else zs.getD j 0) ∧ Only b1 w1 wr) (fun z _ => P - (intOf z).toNat)
  case atStart => exact ⟨0, Nat.zero_le _, rfl, HR1.out.congr fun j hj => by rw [if_neg (Nat.not_lt_zero _)], Only.refl _ _⟩
  case round =>
    obtain ⟨k, hkP, rfl, hv, ho⟩ := hrel
    have HR := Lib.hid hv
    have HO := Lib.hid ho
    have HBW := Lib.hid (HB1.out.trans (HO.out.below hb1w))
    clear hv ho
    by_cases hk : k < P
    · have hk2 : (k : Int) < (P : Int) := by omega
      have r1 := HR.out.cell hk
      rw [if_neg (Nat.lt_irrefl k)] at r1
      have r2 := HR.out.frozen k
      have e1 := (HV.out.keep HBW.out HV.out.lt).cell hk
      have hz1 := HZ.out k hk
      have hf1 := HF.out k hk
      have HNX : Hid (∀ x, Vec (wr.setCell ⟨b1, k, none⟩ (.int .i64 x)) b1 P (upd (fun j => if j < k then zs.getD j 0 - F j else zs.getD j 0) k x)) := fun x => HR.out.set hk x
      have HUP : Hid (∀ j, upd (fun j => if j < k then zs.getD j 0 - F j else zs.getD j 0) k (zs.getD k 0 - F k) j = if j < k + 1 then zs.getD j 0 - F j else zs.getD j 0) := fun j => by
        by_cases c : j = k
        · rw [c, upd_at, if_pos (by omega)]
        · rw [upd_no c]
          by_cases c2 : j < k
          · rw [if_pos c2, if_pos (by omega)]
          · rw [if_neg c2, if_neg (by omega)]
      obtain ⟨x, hx⟩ : ∃ x, x = zs.getD k 0 := ⟨_, rfl⟩
      rw [← hx] at r1 hz1 HUP
      clear hx
      obtain ⟨y, hy⟩ : ∃ y, y = F k := ⟨_, rfl⟩
      rw [← hy] at e1 hf1 HUP
      clear hy
      have hw1 : (-9223372036854775808 : Int) ≤ x - y := by omega
      have hw2 : x - y ≤ 9223372036854775807 := by omega
      go_upto_region 5 with fail
      refine wp_region_noPanic ?_
      go_region
      refine NoPanic.normal ?_
      go_wp2_with fail
      go_roundw
      case rel => exact ⟨k + 1, by omega, by go_num, ((HNX.out (x - y)).congr fun j hj => HUP.out j).drewN 1, only_drew (HO.out.trans (only_setCell _ _ _ _))⟩
      case measure => simp [intOf]; omega
    · obtain rfl : k = P := by omega
      obtain ⟨P, rfl⟩ : ∃ q, q = k := ⟨_, rfl⟩
      have HRP : Hid (Vec wr b1 P fun j => zs.getD j 0 - F j) := HR.out.congr fun j hj => by rw [if_pos hj]
      clear HR
      have HRI := Lib.hid (HRP.out.is HP1.out)
      have HXN2 : wr.cell? ⟨xn, 0, none⟩ = some (.pointer (some ⟨bn, 0, none⟩)) := cell_keep HXN.out HBW.out
      have HWZ : Hid (∀ k, k < P → -1100 ≤ (lstF P fun j => zs.getD j 0 - F j).getD k 0 ∧ (lstF P fun j => zs.getD j 0 - F j).getD k 0 ≤ 1100) := fun k hk => by
        rw [lstF_get hk]
        have := HZ.out k hk
        have := HF.out k hk
        omega
      have HWE : Hid (Win P E (fun k => (lstF P fun j => zs.getD j 0 - F j).getD k 0) ↔ Win P E fun k => zs.getD k 0 - F k) := ⟨fun h => h.congr fun k hk => by rw [lstF_get hk], fun h => h.congr fun k hk => by rw [lstF_get hk]⟩
      go_wp2_with fail
      refine (cwins_any P E Dg bn (some ⟨b1, 0, none⟩) c1 (lstF P fun j => zs.getD j 0 - F j) w0 wr HG.out h0 HN.out (HB0.out.trans (HBW.out.mono HB0.out.size)) HRI.out HWZ.out).mono ?_
      rintro e1 w4 ⟨⟨q, rfl, hq⟩, hb4⟩
      have HB4 := Lib.hid (HBW.out.trans (hb4.mono HBW.out.size))
      have HQ := Lib.hid (hq.trans HWE.out)
      clear hb4 hq HWE HWZ HRI HRP HXN2 HO HBW
      cases q
      case true =>
        have HT : Hid (CloPost P E zs F xl w (.returned (.bool true)) w4) := .inl ⟨rfl, HQ.out.1 rfl, HB4.out⟩
        go_wp2_with fail
        go_ret
        exact HT.out
      case false =>
        have HVE := Lib.hid ((HV.out.keep HB4.out HV.out.lt).is HP1.out)
        go_wp2_with fail
        refine (clone_any (some ⟨be, 0, none⟩) P P (lstF P F) w4 lstF_len (by omega) HVE.out.cells (fun h => by cases h)).mono ?_
        rintro e1 w5 ⟨v5, rfl, hown5, hb5⟩
        obtain ⟨b5, c5, rfl⟩ : ∃ b c, v5 = .slice (some ⟨b, 0, none⟩) P c := by
          rcases hown5.2 with ⟨_, h1⟩ | ⟨g, cap, cur, h1, _⟩
          · omega
          · exact ⟨g, cap, h1⟩
        have hV5 := vec_own hown5 lstF_len
        have hlow := own_low hown5 b5 rfl
        have hBW5 := HB4.out.trans (hb5.mono HB4.out.size)
        have hL5 := HL.out.keep hBW5 HL.out.lt
        have ho5 := only_setCell w5 xl 0 (.slice (some ⟨b5, 0, none⟩) P c5)
        have hne : b5 ≠ xl := by have := HL.out.lt; have := HB4.out.size; omega
        have hI5 := ((hV5.other ho5 hne).congr (G := F) fun k hk => lstF_get hk).is HP1.out
        have hR5 := hL5.set 0 (.slice (some ⟨b5, 0, none⟩) P c5)
        have z5 := hL5.frozen 0
        have l5 := hL5.cell 0
        dsimp only [List.getElem?_cons_zero] at l5
        have HF5 : Hid (CloPost P E zs F xl w (.returned (.bool false)) (w5.setCell ⟨xl, 0, none⟩ (.slice (some ⟨b5, 0, none⟩) P c5))) := .inr ⟨rfl, fun h => (by have := HQ.out.2 h; cases this), w5, _, c5, hBW5, ho5, hR5, hI5⟩
        clear hown5 hb5 hV5 hlow hBW5 hL5 ho5 hne hI5 hR5 HVE
        go_wp2_with fail
        go_ret
        exact HF5.out
end Ch
end Go.Proofs.YtjikildiblchpaaDoor

/- WALK: chips.effective: all of a degree by their numbers (a closure that calls itself by its own variable). -/
namespace Go.Proofs.YtjikildiblchpaaDoor
set_option linter.unusedSimpArgs false
set_option linter.unusedVariables false
open Go.RowKit Go.Lib
namespace Ch
open Tld Mem Rt

/-- The variables that the closures share. -/
structure Box (w : World) (xd xn xl xp xy be xe xf P : Nat) (F : Nat → Int) : Prop where
  o1 : xl < xp
  o2 : xp < xy
  o3 : xy < be
  o4 : be < xe
  o5 : xe < xf
  rl : ∃ v, Row w xl 25 [v]
  rp : Row w xp 3 [.int .i64 (P : Int)]
  ry : Row w xy 82 [.func (.func 39) #[] #[.pointer (some ⟨xd, 0, none⟩), .pointer (some ⟨xn, 0, none⟩), .pointer (some ⟨xl, 0, none⟩)]]
  re : Row w xe 25 [.slice (some ⟨be, 0, none⟩) P P]
  rf : Row w xf 100 [.func (.func 56) #[] #[.pointer (some ⟨xp, 0, none⟩), .pointer (some ⟨xe, 0, none⟩), .pointer (some ⟨xy, 0, none⟩), .pointer (some ⟨xf, 0, none⟩)]]
  rv : Vec w be P F
theorem Box.below {w w' : World} {xd xn xl xp xy be xe xf P : Nat} {F : Nat → Int} (h : Box w xd xn xl xp xy be xe xf P F) (k : Below w.heap.size w w') : Box w' xd xn xl xp xy be xe xf P F where
  o1 := h.o1
  o2 := h.o2
  o3 := h.o3
  o4 := h.o4
  o5 := h.o5
  rl := by obtain ⟨v, hv⟩ := h.rl; exact ⟨v, hv.keep k hv.lt⟩
  rp := h.rp.keep k h.rp.lt
  ry := h.ry.keep k h.ry.lt
  re := h.re.keep k h.re.lt
  rf := h.rf.keep k h.rf.lt
  rv := h.rv.keep k h.rv.lt
theorem Box.onlyE {w w' : World} {xd xn xl xp xy be xe xf P : Nat} {F F' : Nat → Int} (h : Box w xd xn xl xp xy be xe xf P F) (k : Only be w w') (hv : Vec w' be P F') : Box w' xd xn xl xp xy be xe xf P F' where
  o1 := h.o1
  o2 := h.o2
  o3 := h.o3
  o4 := h.o4
  o5 := h.o5
  rl := by obtain ⟨v, hr⟩ := h.rl; exact ⟨v, hr.other k (by have := h.o1; have := h.o2; have := h.o3; omega)⟩
  rp := h.rp.other k (by have := h.o2; have := h.o3; omega)
  ry := h.ry.other k (by have := h.o3; omega)
  re := h.re.other k (by have := h.o4; omega)
  rf := h.rf.other k (by have := h.o4; have := h.o5; omega)
  rv := hv
theorem Box.cong {w : World} {xd xn xl xp xy be xe xf P : Nat} {F F' : Nat → Int} (h : Box w xd xn xl xp xy be xe xf P F) (g : ∀ k, k < P → F k = F' k) : Box w xd xn xl xp xy be xe xf P F' := ⟨h.o1, h.o2, h.o3, h.o4, h.o5, h.rl, h.rp, h.ry, h.re, h.rf, h.rv.congr g⟩
/-- What filling from a place on comes to. -/
def FillPost (P : Nat) (E : Nat → Nat → Nat) (zs : List Int) (n : Int) (k : Nat) (F : Nat → Int) (xd xn xl xp xy be xe xf : Nat) (wB : World) (e : Ending) (w' : World) : Prop :=
  ((e = .returned (.bool true) ∧ PreW P n (Tak P E zs) F k ∧ ∃ F', (∀ i, i < k → F' i = F i) ∧ Box w' xd xn xl xp xy be xe xf P F') ∨
   (e = .returned (.bool false) ∧ ∃ (g : Nat → Int) (a : Option Addr) (c : Nat), PreF P n (Tak P E zs) F k g ∧ w'.cell? ⟨xl, 0, none⟩ = some (.slice a P c) ∧ Ints.Is w' a P (lstF P g))) ∧ Below wB.heap.size wB w'

set_option maxHeartbeats 16000000 in
set_option maxRecDepth 1000000 in
theorem fill_any (P : Nat) (E : Nat → Nat → Nat) (Dg : Nat → Nat) (bn : Nat) (da : Option Addr) (dc : Nat) (zs : List Int) (wB : World) (n : Int) (xd xn xl xp xy be xe xf : Nat) (hG : Gr P E) (h0 : 0 < P) (hN : Net wB bn P E Dg)
    (hxd : wB.cell? ⟨xd, 0, none⟩ = some (.slice da P dc)) (hxn : wB.cell? ⟨xn, 0, none⟩ = some (.pointer (some ⟨bn, 0, none⟩))) (hD : Ints.Is wB da P zs) (hz : ∀ k, k < P → -1000 ≤ zs.getD k 0 ∧ zs.getD k 0 ≤ 1000) (hn : n ≤ 100) (hxl : wB.heap.size ≤ xl) :
    ∀ (d k : Nat), k + d + 1 = P → ∀ (F : Nat → Int) (left : Int) (w : World), 0 ≤ left → left = n - sumZ F k → (∀ i, i < k → 0 ≤ F i ∧ F i ≤ 100) → Box w xd xn xl xp xy be xe xf P F → Below wB.heap.size wB w →
    Calls Tryd.prog 56 #[.int .i64 (k : Int), .int .i64 left, .pointer (some ⟨xp, 0, none⟩), .pointer (some ⟨xe, 0, none⟩), .pointer (some ⟨xy, 0, none⟩), .pointer (some ⟨xf, 0, none⟩)] w (FillPost P E zs n k F xd xn xl xp xy be xe xf wB)
  | d, k, hkd, F, left, w, hl0, hleft, hF, hX, hB => by
    have hP := hG.p10
    have HG := Lib.hid hG
    have HN := Lib.hid hN
    have HXD := Lib.hid hxd
    have HXN := Lib.hid hxn
    have HD := Lib.hid hD
    have HZ := Lib.hid hz
    have HF := Lib.hid hF
    have HX := Lib.hid hX
    have HB := Lib.hid hB
    have HLE := Lib.hid hleft
    have IH := Lib.hid (fun d' (h : d' < d) => fill_any P E Dg bn da dc zs wB n xd xn xl xp xy be xe xf hG h0 hN hxd hxn hD hz hn hxl d')
    have hpre : 0 ≤ sumZ F k := sumZ_nonneg fun i hi => (hF i hi).1
    have hl1 : left ≤ 100 := by omega
    have hw1 : (-9223372036854775808 : Int) ≤ (P : Int) - 1 := by omega
    have hw2 : (P : Int) - 1 ≤ 9223372036854775807 := by omega
    have hkP : k < P := by omega
    have hkP2 : (k : Int) < (P : Int) := by omega
    clear hG hN hxd hxn hD hz hF hX hB hleft
    have p0 := HX.out.rp.cell 0
    have y0 := HX.out.ry.cell 0
    have x0 := HX.out.re.cell 0
    have f0 := HX.out.rf.cell 0
    dsimp only [List.getElem?_cons_zero] at p0 y0 x0 f0
    cases d with
    | zero =>
      have b1 : ((k : Int) == (P : Int) - 1) = true := by rw [beq_iff_eq]; omega
      have k1 := HX.out.rv.cell hkP
      have k2 := HX.out.rv.frozen k
      go_enter Tryd.func56, Tryd.ntmps56
      go_upto_region 3 with fail
      have ho := only_setCell w be k (.int .i64 left)
      have HX2 := Lib.hid (HX.out.onlyE ho (HX.out.rv.set hkP left))
      have HB2 := Lib.hid (HB.out.trans (ho.below (by have := HX.out.o1; have := HX.out.o2; have := HX.out.o3; omega)))
      clear ho p0 y0 x0 f0 k1 k2 b1
      generalize w.setCell ⟨be, k, none⟩ (.int .i64 left) = w2 at *
      have y0 := HX2.out.ry.cell 0
      have x0 := HX2.out.re.cell 0
      dsimp only [List.getElem?_cons_zero] at y0 x0
      obtain ⟨v, hv⟩ := HX2.out.rl
      have HUF : Hid (∀ i, i < P → 0 ≤ upd F k left i ∧ upd F k left i ≤ 100) := fun i hi => by
        by_cases c : i = k
        · rw [c, upd_at]; omega
        · rw [upd_no c]; exact HF.out i (by omega)
      go_wp2_with fail
      refine (clo_any P E Dg bn da dc zs wB w2 xd xn xl be (upd F k left) v HG.out h0 HN.out HB2.out (cell_keep HXD.out HB2.out) (cell_keep HXN.out HB2.out) (HD.out.keep HB2.out) HZ.out HX2.out.rv HUF.out hv).mono ?_
      rintro e1 w3 (⟨rfl, hw, hb3⟩ | ⟨rfl, hw, w1, a, c, hb3, ho3, hr3, hi3⟩)
      · have HT : Hid (FillPost P E zs n k F xd xn xl xp xy be xe xf wB (.returned (.bool true)) w3) := ⟨.inl ⟨rfl, by
            obtain rfl : P = k + 1 := by omega
            have hw' := hw
            rw [HLE.out] at hw'
            exact last_won (W := Tak (k + 1) E zs) (fun a b g h => Tak.congr g h) hw', _, fun i hi => upd_no (by omega), HX2.out.below hb3⟩, HB2.out.trans (hb3.mono HB2.out.size)⟩
        clear hw hb3
        go_wp2_with fail
        go_ret
        exact HT.out
      · have HT : Hid (FillPost P E zs n k F xd xn xl xp xy be xe xf wB (.returned (.bool false)) w3) := ⟨.inr ⟨rfl, upd F k left, a, c, by
            obtain rfl : P = k + 1 := by omega
            have hw' := hw
            have hll := HLE.out
            rw [hll] at hw' ⊢
            exact last_lost (fun i hi => (HF.out i hi).1) (by omega) hw', by rw [hr3.cell 0]; rfl, hi3⟩, (HB2.out.trans (hb3.mono HB2.out.size)).trans (ho3.below hxl)⟩
        clear hw hb3 ho3 hr3 hi3
        go_wp2_with fail
        go_ret
        exact HT.out
    | succ d =>
      have b1 : ((k : Int) == (P : Int) - 1) = false := by rw [beq_eq_false_iff_ne]; omega
      go_enter Tryd.func56, Tryd.ntmps56
      go_wp2_with fail
      clear p0 y0 x0 f0
      go_loopw [9] (fun z wr => ∃ (x : Nat) (F' : Nat → Int), (x : Int) ≤ left + 1 ∧ z = .int .i64 (x : Int) ∧ (∀ i, i < k → F' i = F i) ∧ StepW P n (Tak P E zs) F k (x : Int) ∧ Box wr xd xn xl xp xy be xe xf P F' ∧ Below wB.heap.size wB wr) (fun z _ => (left + 1 - intOf z).toNat)
      case atStart => exact ⟨0, F, by omega, rfl, fun _ _ => rfl, step_zero hkP, HX.out, HB.out⟩
      case round =>
        clear HX HB
        obtain ⟨x, F', hx, rfl, hag, hst, hX, hB⟩ := hrel
        have HAG := Lib.hid hag
        have HST := Lib.hid hst
        have HX := Lib.hid hX
        have HB := Lib.hid hB
        clear hag hst hX hB
        by_cases hlt : (x : Int) ≤ left
        · have x0 := HX.out.re.cell 0
          dsimp only [List.getElem?_cons_zero] at x0
          have k1 := HX.out.rv.cell hkP
          have k2 := HX.out.rv.frozen k
          go_upto_region 8 with fail
          have ho := only_setCell wr be k (.int .i64 (x : Int))
          have HX2 := Lib.hid (HX.out.onlyE ho (HX.out.rv.set hkP (x : Int)))
          have HB2 := Lib.hid (HB.out.trans (ho.below (by have := HX.out.o1; have := HX.out.o2; have := HX.out.o3; omega)))
          have HUF : Hid (∀ i, i < k + 1 → 0 ≤ upd F' k (x : Int) i ∧ upd F' k (x : Int) i ≤ 100) := fun i hi => by
            by_cases c : i = k
            · rw [c, upd_at]; omega
            · rw [upd_no c, HAG.out i (by omega)]; exact HF.out i (by omega)
          have HUA : Hid (∀ i, i < k + 1 → upd F' k (x : Int) i = upd F k (x : Int) i) := fun i hi => by
            by_cases c : i = k
            · rw [c, upd_at, upd_at]
            · rw [upd_no c, upd_no c]; exact HAG.out i (by omega)
          have HUS : Hid (left - (x : Int) = n - sumZ (upd F' k (x : Int)) (k + 1)) := by
            show _ = _
            rw [sumZ_congr HUA.out]
            show _ = n - (sumZ (upd F k (x : Int)) k + upd F k (x : Int) k)
            rw [upd_at, sumZ_congr (F := upd F k (x : Int)) (G := F) fun i hi => upd_no (by omega), HLE.out]
            omega
          clear ho x0 k1 k2
          generalize wr.setCell ⟨be, k, none⟩ (.int .i64 (x : Int)) = w2 at *
          have f0 := HX2.out.rf.cell 0
          dsimp only [List.getElem?_cons_zero] at f0
          have hk3 : (-9223372036854775808 : Int) ≤ (k : Int) + 1 := by omega
          have hk4 : (k : Int) + 1 ≤ 9223372036854775807 := by omega
          have hk5 : (-9223372036854775808 : Int) ≤ left - (x : Int) := by omega
          have hk6 : left - (x : Int) ≤ 9223372036854775807 := by omega
          go_wp2_with fail
          refine (IH.out d (Nat.lt_succ_self d) (k + 1) (by omega) (upd F' k (x : Int)) (left - (x : Int)) w2 (by omega) HUS.out HUF.out HX2.out HB2.out).mono ?_
          rintro e1 w3 ⟨⟨rfl, hw, F2, hF2, hX3⟩ | ⟨rfl, g, a, c, hg, hl3, hi3⟩, hb3⟩
          · have HST2 : Hid (StepW P n (Tak P E zs) F k ((x : Int) + 1)) := step_on HST.out (hw.congr HUA.out)
            have HX3 := Lib.hid hX3
            have HB3 := Lib.hid hb3
            have HF2 : Hid (∀ i, i < k → F2 i = F i) := fun i hi => by rw [hF2 i (by omega), upd_no (by omega)]; exact HAG.out i hi
            clear hw hF2 hX3 hb3 f0
            go_wp2_with fail
            go_roundw
            case rel => exact ⟨x + 1, F2, by omega, by go_num, HF2.out, HST2.out, HX3.out, HB3.out⟩
            case measure => simp [intOf]; omega
          · have HT : Hid (FillPost P E zs n k F xd xn xl xp xy be xe xf wB (.returned (.bool false)) w3) := ⟨.inr ⟨rfl, g, a, c, step_lost hkP HST.out (hg.congr HUA.out), hl3, hi3⟩, hb3⟩
            clear hg hl3 hi3 hb3 f0
            go_wp2_with fail
            go_ret
            exact HT.out
        · have HT : Hid (FillPost P E zs n k F xd xn xl xp xy be xe xf wB (.returned (.bool true)) wr) := ⟨.inl ⟨rfl, step_end hkP HST.out (by rw [← HLE.out]; omega), F', HAG.out, HX.out⟩, HB.out⟩
          go_wp2_with fail
          go_ret
          exact HT.out
termination_by d => d
end Ch
end Go.Proofs.YtjikildiblchpaaDoor

/- WALK: chips.effective, chips.Rank. -/
namespace Go.Proofs.YtjikildiblchpaaDoor
set_option linter.unusedSimpArgs false
set_option linter.unusedVariables false
open Go.RowKit Go.Lib
namespace Ch
open Tld Mem Rt

/-- What going through a degree comes to. -/
def EffPost (P : Nat) (E : Nat → Nat → Nat) (zs : List Int) (n : Int) (xl : Nat) (wB : World) (e : Ending) (w' : World) : Prop :=
  ((e = .returned (.bool true) ∧ AllW P (Tak P E zs) n) ∨
   (e = .returned (.bool false) ∧ ∃ (g : Nat → Int) (a : Option Addr) (c : Nat), First P n (Tak P E zs) g ∧ w'.cell? ⟨xl, 0, none⟩ = some (.slice a P c) ∧ Ints.Is w' a P (lstF P g))) ∧ Below wB.heap.size wB w'
theorem eff_of {P : Nat} {E : Nat → Nat → Nat} {zs : List Int} {n : Int} {F : Nat → Int} {xd xn xl xp xy be xe xf : Nat} {wB w' : World} {e : Ending} (h : FillPost P E zs n 0 F xd xn xl xp xy be xe xf wB e w') : EffPost P E zs n xl wB e w' := by
  rcases h with ⟨⟨rfl, hw, _⟩ | ⟨rfl, g, a, c, hg, hl, hi⟩, hb⟩
  · exact ⟨.inl ⟨rfl, fun e he => hw e he fun i hi => absurd hi (Nat.not_lt_zero _)⟩, hb⟩
  · exact ⟨.inr ⟨rfl, g, a, c, ⟨hg.eff, hg.lost, fun e' he hl => hg.fst e' he (fun i hi => absurd hi (Nat.not_lt_zero _)) hl⟩, hl, hi⟩, hb⟩

set_option maxHeartbeats 16000000 in
set_option maxRecDepth 1000000 in
theorem effective_any (P : Nat) (E : Nat → Nat → Nat) (Dg : Nat → Nat) (bn : Nat) (da : Option Addr) (dc : Nat) (zs : List Int) (wB w : World) (n : Int) (xd xn xl : Nat) (v : Value) (hG : Gr P E) (h0 : 0 < P) (hN : Net wB bn P E Dg)
    (hxd : wB.cell? ⟨xd, 0, none⟩ = some (.slice da P dc)) (hxn : wB.cell? ⟨xn, 0, none⟩ = some (.pointer (some ⟨bn, 0, none⟩))) (hD : Ints.Is wB da P zs) (hz : ∀ k, k < P → -1000 ≤ zs.getD k 0 ∧ zs.getD k 0 ≤ 1000) (hn0 : 0 ≤ n) (hn : n ≤ 100) (hxl : wB.heap.size ≤ xl) (hL : Row w xl 25 [v]) (hB : Below wB.heap.size wB w) :
    Calls Tryd.prog 38 #[.int .i64 (P : Int), .int .i64 n, .func (.func 39) #[] #[.pointer (some ⟨xd, 0, none⟩), .pointer (some ⟨xn, 0, none⟩), .pointer (some ⟨xl, 0, none⟩)]] w (EffPost P E zs n xl wB) := by
  have hP := hG.p10
  obtain ⟨i0, hI0, hz0, hz1, hz2⟩ := info_parts infoIntN
  have HFILL := Lib.hid (fun xp xy be xe xf => fill_any P E Dg bn da dc zs wB n xd xn xl xp xy be xe xf hG h0 hN hxd hxn hD hz hn hxl)
  have HL := Lib.hid hL
  have HB := Lib.hid hB
  have HXL := Lib.hid hxl
  clear hG hN hxd hxn hD hz hL hB
  go_enter Tryd.func38, Tryd.ntmps38
  go_upto_region 1 with fail
  have hs1 : (w.alloc (.cells #[.int .i64 (P : Int)] 3)).heap.size = w.heap.size + 1 := by simp
  have rp1 := row_alloc w 3 [.int .i64 (P : Int)]
  have b1 : Below w.heap.size w (w.alloc (.cells [.int .i64 (P : Int)].toArray 3)) := (Below.refl _ _).alloc (Nat.le_refl _) _
  have ry1 := row_alloc (w.alloc (.cells #[.int .i64 (P : Int)] 3)) 82 [.func (.func 39) #[] #[.pointer (some ⟨xd, 0, none⟩), .pointer (some ⟨xn, 0, none⟩), .pointer (some ⟨xl, 0, none⟩)]]
  have b2 : Below (w.heap.size + 1) (w.alloc (.cells #[.int .i64 (P : Int)] 3)) ((w.alloc (.cells #[.int .i64 (P : Int)] 3)).alloc (.cells [.func (.func 39) #[] #[.pointer (some ⟨xd, 0, none⟩), .pointer (some ⟨xn, 0, none⟩), .pointer (some ⟨xl, 0, none⟩)]].toArray 82)) := (Below.refl _ _).alloc (by rw [hs1]; exact Nat.le_refl _) _
  rw [hs1] at ry1
  have RP := Lib.hid (rp1.keep b2 (Nat.lt_succ_self _))
  have RY := Lib.hid ry1
  have BW := Lib.hid (b1.trans (b2.mono (Nat.le_succ _)))
  have RL := Lib.hid (HL.out.keep BW.out HL.out.lt)
  have hxlw := HL.out.lt
  clear rp1 ry1 b1 b2 hs1
  obtain ⟨xp, hxp⟩ : ∃ q, q = w.heap.size := ⟨_, rfl⟩
  obtain ⟨xy, hxy⟩ : ∃ q, q = w.heap.size + 1 := ⟨_, rfl⟩
  rw [← hxp] at RP hxlw
  rw [← hxy] at RY
  have HXP := Lib.hid hxp
  rw [← hxy, ← hxp]
  have hpy : xp < xy := by omega
  clear hxp hxy
  generalize (w.alloc (.cells #[.int .i64 (P : Int)] 3)).alloc (.cells #[.func (.func 39) #[] #[.pointer (some ⟨xd, 0, none⟩), .pointer (some ⟨xn, 0, none⟩), .pointer (some ⟨xl, 0, none⟩)]] 82) = w1 at *
  have p0 := RP.out.cell 0
  dsimp only [List.getElem?_cons_zero] at p0
  go_upto_region 2 with (refine Ops.wpList_make rfl 25 _ _ rfl 3 i0 (.int .i64 0) Tryd.underlying25 hI0 hz0 rfl hz1 (by rw [hz2]; decide) P rfl rfl (by omega) ?_; intro be w2 hbe hb2 hR2)
  have hyb : xy < be := by have := RY.out.lt; omega
  have re1 := row_alloc w2 25 [.slice (some ⟨be, 0, none⟩) P P]
  have b3 : Below w2.heap.size w2 (w2.alloc (.cells [.slice (some ⟨be, 0, none⟩) P P].toArray 25)) := (Below.refl _ _).alloc (Nat.le_refl _) _
  have b23 := hb2.trans (b3.mono hb2.size)
  have RV := Lib.hid ((row_made hR2).keep b3 hR2.lt)
  have RE := Lib.hid re1
  have RP := Lib.hid (RP.out.keep b23 RP.out.lt)
  have RY := Lib.hid (RY.out.keep b23 RY.out.lt)
  have RL := Lib.hid (RL.out.keep b23 RL.out.lt)
  have hbe2 := hR2.lt
  have BW := Lib.hid (BW.out.trans (b23.mono BW.out.size))
  obtain ⟨xe, hxe⟩ : ∃ q, q = w2.heap.size := ⟨_, rfl⟩
  rw [← hxe] at RE hbe2
  rw [← hxe]
  clear re1 b3 b23 hb2 hR2 p0 hxe
  generalize w2.alloc (.cells #[.slice (some ⟨be, 0, none⟩) P P] 25) = w3 at *
  go_upto_region 3 with fail
  have rf1 := row_alloc w3 100 [.nilFunc]
  have b4 : Below w3.heap.size w3 (w3.alloc (.cells [Value.nilFunc].toArray 100)) := (Below.refl _ _).alloc (Nat.le_refl _) _
  have RF := Lib.hid rf1
  have RV := Lib.hid (RV.out.keep b4 RV.out.lt)
  have hef : xe < w3.heap.size := RE.out.lt
  have RE := Lib.hid (RE.out.keep b4 RE.out.lt)
  have RP := Lib.hid (RP.out.keep b4 RP.out.lt)
  have RY := Lib.hid (RY.out.keep b4 RY.out.lt)
  have RL := Lib.hid (RL.out.keep b4 RL.out.lt)
  have BW := Lib.hid (BW.out.trans (b4.mono BW.out.size))
  obtain ⟨xf, hxf⟩ : ∃ q, q = w3.heap.size := ⟨_, rfl⟩
  rw [← hxf] at RF hef
  rw [← hxf]
  clear rf1 b4 hxf
  generalize w3.alloc (.cells #[Value.nilFunc] 100) = w4 at *
  have f0 := RF.out.cell 0
  dsimp only [List.getElem?_cons_zero] at f0
  have f1 := RF.out.frozen 0
  go_upto_region 4 with fail
  have ho := only_setCell w4 xf 0 (.func (.func 56) #[] #[.pointer (some ⟨xp, 0, none⟩), .pointer (some ⟨xe, 0, none⟩), .pointer (some ⟨xy, 0, none⟩), .pointer (some ⟨xf, 0, none⟩)])
  have RF2 := RF.out.set 0 (.func (.func 56) #[] #[.pointer (some ⟨xp, 0, none⟩), .pointer (some ⟨xe, 0, none⟩), .pointer (some ⟨xy, 0, none⟩), .pointer (some ⟨xf, 0, none⟩)])
  have hbx : be < xf := by omega
  have hBB : Below wB.heap.size wB (w4.setCell ⟨xf, 0, none⟩ (.func (.func 56) #[] #[.pointer (some ⟨xp, 0, none⟩), .pointer (some ⟨xe, 0, none⟩), .pointer (some ⟨xy, 0, none⟩), .pointer (some ⟨xf, 0, none⟩)])) := (HB.out.trans (BW.out.mono HB.out.size)).trans (ho.below (by have := HXL.out; omega))
  have HBB := Lib.hid hBB
  have HX : Hid (Box (w4.setCell ⟨xf, 0, none⟩ (.func (.func 56) #[] #[.pointer (some ⟨xp, 0, none⟩), .pointer (some ⟨xe, 0, none⟩), .pointer (some ⟨xy, 0, none⟩), .pointer (some ⟨xf, 0, none⟩)])) xd xn xl xp xy be xe xf P fun _ => 0) := ⟨by omega, hpy, hyb, by omega, hef, ⟨_, RL.out.other ho (by omega)⟩, RP.out.other ho (by omega), RY.out.other ho (by omega), RE.out.other ho (by omega), RF2, RV.out.other ho (by omega)⟩
  clear ho RF2 hBB f0 f1 RF RV RE RP RY RL BW HB
  generalize w4.setCell ⟨xf, 0, none⟩ (.func (.func 56) #[] #[.pointer (some ⟨xp, 0, none⟩), .pointer (some ⟨xe, 0, none⟩), .pointer (some ⟨xy, 0, none⟩), .pointer (some ⟨xf, 0, none⟩)]) = w5 at *
  have f0 := HX.out.rf.cell 0
  dsimp only [List.getElem?_cons_zero] at f0
  obtain ⟨q, hq⟩ : ∃ q, P = q + 1 := ⟨P - 1, by omega⟩
  go_wp2_with fail
  refine (HFILL.out xp xy be xe xf q 0 (by omega) (fun _ => 0) n w5 hn0 (by show n = n - 0; omega) (fun i hi => absurd hi (Nat.not_lt_zero _)) HX.out HBB.out).mono ?_
  intro e1 w6 hp
  have HE := Lib.hid (eff_of hp)
  have he : ∃ b, e1 = .returned (.bool b) := by
    rcases hp with ⟨⟨h, _⟩ | ⟨h, _⟩, _⟩
    · exact ⟨_, h⟩
    · exact ⟨_, h⟩
  obtain ⟨b, rfl⟩ := he
  clear hp f0
  go_wp2_with fail
  go_ret
  exact HE.out

/-- What chips.Rank comes to. -/
def RankPost (P : Int) (m : Nat) (f : Nat → Nat → Int) (zs : List Int) (w : World) (e : Ending) (w' : World) : Prop :=
  ((chfault P m f [zs] ≠ 0 ∧ e = .returned (.tuple #[.int .i64 0, .slice none 0 0, errV (chfault P m f [zs])])) ∨
   (chfault P m f [zs] = 0 ∧ (6 < P ∨ 12 < sumZ (fun k => zs.getD k 0) P.toNat) ∧ e = .returned (.tuple #[.int .i64 0, .slice none 0 0, errV 4])) ∨
   (chfault P m f [zs] = 0 ∧ P ≤ 6 ∧ sumZ (fun k => zs.getD k 0) P.toNat ≤ 12 ∧ ∃ (p k c : Nat) (a : Option Addr) (g : Nat → Int), P = (p : Int) ∧ k ≤ 13 ∧ RankIs p (Tak p (fun a b => btw f a b m) zs) k g ∧ e = .returned (.tuple #[.int .i64 ((k : Int) - 1), .slice a p c, .nilIface]) ∧ Ints.Is w' a p (lstF p g))) ∧ Below w.heap.size w w'
end Ch
end Go.Proofs.YtjikildiblchpaaDoor

/- WALK: chips.Rank. -/
namespace Go.Proofs.YtjikildiblchpaaDoor
set_option linter.unusedSimpArgs false
set_option linter.unusedVariables false
open Go.RowKit Go.Lib
namespace Ch
open Tld Mem Rt

set_option maxHeartbeats 16000000 in
set_option maxRecDepth 1000000 in
theorem rankP_any (P : Int) (ea : Option Addr) (m ec : Nat) (f : Nat → Nat → Int) (da : Option Addr) (dn dc : Nat) (zs : List Int) (w : World) (hE : Mem.Rows w ea m 3 (fun i j => .int .i64 (f i j))) (hm : m ≤ 9223372036854775807) (hD : Ints.Is w da dn zs) :
    Calls Tryd.prog 19 #[.agg #[.int .i64 P, .slice ea m ec], .slice da dn dc] w (RankPost P m f zs w) := by
  have HE := Lib.hid hE
  have HD := Lib.hid hD
  have HDL := Lib.hid hD.len
  clear hE hD
  go_enter Tryd.func19, Tryd.ntmps19
  go_upto_region 1 with fail
  have hs1 : (w.alloc (.cells #[.int .i64 P, .slice ea m ec] 24)).heap.size = w.heap.size + 1 := by simp
  have hR : Row (w.alloc (.cells #[.int .i64 P, .slice ea m ec] 24)) w.heap.size 24 [.int .i64 P, .slice ea m ec] := row_alloc w _ _
  have hB : Below w.heap.size w (w.alloc (.cells #[.int .i64 P, .slice ea m ec] 24)) := (Below.refl _ _).alloc (Nat.le_refl _) _
  have hR2 := row_alloc (w.alloc (.cells #[.int .i64 P, .slice ea m ec] 24)) 25 [.slice da dn dc]
  have hB2 : Below (w.heap.size + 1) (w.alloc (.cells #[.int .i64 P, .slice ea m ec] 24)) ((w.alloc (.cells #[.int .i64 P, .slice ea m ec] 24)).alloc (.cells [.slice da dn dc].toArray 25)) := (Below.refl _ _).alloc (by rw [hs1]; exact Nat.le_refl _) _
  rw [hs1] at hR2
  have HG := Lib.hid (hR.keep hB2 (Nat.lt_succ_self _))
  have HXD := Lib.hid hR2
  have HB := Lib.hid (hB.trans (hB2.mono (Nat.le_succ _)))
  clear hR hB hR2 hB2 hs1
  obtain ⟨xd, hxd⟩ : ∃ q, q = w.heap.size + 1 := ⟨_, rfl⟩
  rw [← hxd] at HXD
  rw [← hxd]
  clear hxd
  generalize (w.alloc (.cells #[.int .i64 P, .slice ea m ec] 24)).alloc (.cells #[.slice da dn dc] 25) = w1 at *
  have hr := row_alloc w1 25 [.slice da dn dc]
  have hbn : Below w1.heap.size w1 (w1.alloc (.cells [.slice da dn dc].toArray 25)) := (Below.refl _ _).alloc (Nat.le_refl _) _
  have HB2 := Lib.hid (HB.out.trans (hbn.mono HB.out.size))
  have HG2 := Lib.hid (HG.out.keep hbn HG.out.lt)
  have HXD2 := Lib.hid (HXD.out.keep hbn HXD.out.lt)
  have HL := Lib.hid (lst_one hr (HD.out.keep HB2.out))
  have l1 := row_range HG.out
  have x1 := HXD.out.cell 0
  dsimp only [List.getElem?_cons_zero] at x1
  clear hr hbn
  go_wp2_with (refine wpList_load_mid rfl 24 _ rfl w.heap.size 0 rfl _ _ l1 Tryd.underlying24 rfl infoGraph ?_)
  clear l1 HG HB HXD x1
  refine (chk_any P ea m ec f _ 1 1 [zs] _ _ _ (rows_keep HE.out HB2.out) hm HL.out rfl (by omega)).mono ?_
  clear HL
  generalize w1.alloc (.cells [.slice da dn dc].toArray 25) = w2 at *
  rintro e1 w3 ⟨⟨hf, rfl⟩ | ⟨hf, bn, rfl, hnet⟩, hb3⟩
  · have HX : Hid (∀ v, RankPost P m f zs w (.returned (.tuple #[.int .i64 0, .slice none 0 0, errV (chfault P m f [zs])])) (w3.alloc (.cells #[v] 76))) := fun v => ⟨.inl ⟨hf, rfl⟩, (HB2.out.trans (hb3.mono HB2.out.size)).trans ((Below.refl _ _).alloc (by have := HB2.out.size; have := hb3.size; omega) _)⟩
    rw [errV_some hf] at HX ⊢
    clear hf hb3
    go_wp2_with fail
    go_ret3
    exact HX.out _
  · obtain ⟨p, rfl, hok, hzl, hz⟩ := chfault_one hf
    have HF := Lib.hid hf
    have HOK := Lib.hid hok
    have HZ := Lib.hid hz
    have hdp : dn = p := by rw [← HDL.out]; exact hzl
    subst hdp
    have HGR := Lib.hid (gr_of hok)
    have h0 := hok.p1
    have hp10 := hok.p10
    rw [Int.toNat_natCast] at hnet
    go_upto_region 2 with fail
    have rn := row_alloc w3 76 [.pointer (some ⟨bn, 0, none⟩)]
    have b4 : Below w3.heap.size w3 (w3.alloc (.cells [.pointer (some ⟨bn, 0, none⟩)].toArray 76)) := (Below.refl _ _).alloc (Nat.le_refl _) _
    have b34 := hb3.trans (b4.mono hb3.size)
    have HG4 := Lib.hid (HG2.out.keep b34 HG2.out.lt)
    have HXD4 := Lib.hid (HXD2.out.keep b34 HXD2.out.lt)
    have HB4 := Lib.hid (HB2.out.trans (b34.mono HB2.out.size))
    have HD4 := Lib.hid (HD.out.keep HB4.out)
    have HN := Lib.hid (hnet.keep b4)
    have HXN := Lib.hid rn
    clear hf hok hz hnet hb3 hzl HG2 HB2 HXD2 rn b4 b34
    obtain ⟨xn, hxn⟩ : ∃ q, q = w3.heap.size := ⟨_, rfl⟩
    rw [← hxn] at HXN
    rw [← hxn]
    clear hxn
    generalize w3.alloc (.cells #[.pointer (some ⟨bn, 0, none⟩)] 76) = w4 at *
    have g0 := HG4.out.cell 0
    dsimp only [List.getElem?_cons_zero] at g0
    have x0 := HXD4.out.cell 0
    dsimp only [List.getElem?_cons_zero] at x0
    by_cases h6 : (6 : Int) < (dn : Int)
    · have HX : Hid (RankPost (dn : Int) m f zs w (.returned (.tuple #[.int .i64 0, .slice none 0 0, .iface 68 (.int .i64 4)])) w4) := ⟨.inr (.inl ⟨HF.out, .inl h6, by rw [errV_some (n := 4) (by decide)]⟩), HB4.out⟩
      go_wp2_with fail
      go_ret3
      exact HX.out
    have HSE : Hid (sumZ (fun k => zs.getD k 0) (dn : Int).toNat = sumZ (fun k => zs.getD k 0) dn) := by show _ = _; rw [Int.toNat_natCast]
    obtain ⟨s, hs⟩ : ∃ s, s = sumZ (fun k => zs.getD k 0) dn := ⟨_, rfl⟩
    have HS := Lib.hid hs
    have HCS := Lib.hid (csum_any da dn dc zs w4 HD4.out (by omega))
    rw [wrap_sum (by omega) (wide HZ.out), ← hs] at HCS
    clear hs
    by_cases h12 : 12 < s
    · have HX : Hid (RankPost (dn : Int) m f zs w (.returned (.tuple #[.int .i64 0, .slice none 0 0, .iface 68 (.int .i64 4)])) w4) := ⟨.inr (.inl ⟨HF.out, .inr (by rw [HSE.out, ← HS.out]; exact h12), by rw [errV_some (n := 4) (by decide)]⟩), HB4.out⟩
      go_wp2_with fail
      refine HCS.out.mono ?_
      rintro e1 w5 ⟨rfl, rfl⟩
      go_wp2_with fail
      go_ret3
      exact HX.out
    go_wp2_with fail
    refine HCS.out.mono ?_
    rintro e1 w5 ⟨rfl, rfl⟩
    clear HCS
    go_wp2_with fail
    clear g0 x0
    go_loopw [9] (fun z wr => ∃ k : Nat, k ≤ 13 ∧ z = .int .i64 (k : Int) ∧ (∀ j : Nat, j < k → AllW dn (Tak dn (fun a b => btw f a b m) zs) (j : Int)) ∧ Below w5.heap.size w5 wr) (fun z _ => 14 - (intOf z).toNat)
    case atStart => exact ⟨0, by omega, rfl, fun j hj => absurd hj (Nat.not_lt_zero _), Below.refl _ _⟩
    case round =>
      obtain ⟨k, hk, rfl, hless, hb⟩ := hrel
      have HLS := Lib.hid hless
      have HBR := Lib.hid (HB4.out.trans (hb.mono HB4.out.size))
      have HB5 := Lib.hid hb
      have hxl := row_alloc wr 25 [.slice none 0 0]
      have hbl : Below wr.heap.size wr (wr.alloc (.cells [Value.slice none 0 0].toArray 25)) := (Below.refl _ _).alloc (Nat.le_refl _) _
      have hxd := (HXD4.out.keep hb HXD4.out.lt).cell 0
      have hxn := (HXN.out.keep hb HXN.out.lt).cell 0
      dsimp only [List.getElem?_cons_zero] at hxd hxn
      have g0 := ((HG4.out.keep hb HG4.out.lt).keep hbl (HG4.out.keep hb HG4.out.lt).lt).cell 0
      dsimp only [List.getElem?_cons_zero] at g0
      have HEF := Lib.hid (effective_any dn (fun a b => btw f a b m) (fun a => deg f a m) bn da dc zs wr _ (k : Int) xd xn wr.heap.size _ HGR.out h0 (HN.out.keep hb) hxd hxn (HD.out.keep HBR.out) HZ.out (by omega) (by omega) (Nat.le_refl _) hxl hbl)
      clear hless hb hxl hbl hxd hxn
      go_upto_region 9 with fail
      generalize wr.alloc (.cells #[Value.slice none 0 0] 25) = w6 at *
      go_wp2_with fail
      refine HEF.out.mono ?_
      rintro e1 w7 ⟨⟨rfl, hall⟩ | ⟨rfl, g, a, c, hfst, hl, hi⟩, hb7⟩
      · have hk12 : (k : Int) ≤ s := by rw [HS.out]; exact won_small HGR.out.sym (by omega) h0 hall
        have HLS2 : Hid (∀ j : Nat, j < k + 1 → AllW dn (Tak dn (fun a b => btw f a b m) zs) (j : Int)) := fun j hj => by
          by_cases c : j = k
          · rw [c]; exact hall
          · exact HLS.out j (by omega)
        have HB7 := Lib.hid (HB5.out.trans (hb7.mono HB5.out.size))
        clear hall hb7 HEF
        go_wp2_with fail
        go_roundw
        case rel => exact ⟨k + 1, by omega, by go_num, HLS2.out, HB7.out⟩
        case measure => simp [intOf]; omega
      · have hk1 : (-9223372036854775808 : Int) ≤ (k : Int) - 1 := by omega
        have hk2 : (k : Int) - 1 ≤ 9223372036854775807 := by omega
        have HX : Hid (∀ nq : Nat, RankPost (dn : Int) m f zs w (.returned (.tuple #[.int .i64 ((k : Int) - 1), .slice a dn c, .nilIface])) (w7.drewN nq)) := fun nq => ⟨.inr (.inr ⟨HF.out, by omega, by rw [HSE.out, ← HS.out]; omega, dn, k, c, a, g, rfl, hk, ⟨HLS.out, hfst⟩, rfl, ⟨hi.len, hi.cells, hi.le⟩⟩), below_drewN (HBR.out.trans (hb7.mono HBR.out.size)) nq⟩
        clear hfst hi hb7 HEF
        go_upto_region 11 with fail
        go_big_quiet (fail)
        go_wp2_with fail
        go_ret3
        exact HX.out _
end Ch
end Go.Proofs.YtjikildiblchpaaDoor

/- WALK of the document's answer: edenref6.Wins, first, next; a number that grows from each effective divisor to the next. -/
namespace Go.Proofs.YtjikildiblchpaaDoor
set_option linter.unusedSimpArgs false
set_option linter.unusedVariables false
open Go.RowKit Go.Lib
namespace Ch
open Tld Mem Rt

theorem sumZ_updw {F W : Nat → Int} {i : Nat} {v : Int} : ∀ {p : Nat}, i < p → sumZ (fun j => upd F i v j * W j) p = sumZ (fun j => F j * W j) p + (v - F i) * W i
  | n + 1, h => by
    show sumZ (fun j => upd F i v j * W j) n + upd F i v n * W n = sumZ (fun j => F j * W j) n + F n * W n + (v - F i) * W i
    by_cases e : i = n
    · subst e
      rw [upd_at, sumZ_congr (F := fun j => upd F i v j * W j) (G := fun j => F j * W j) fun k hk => by rw [upd_no (by omega)], Int.sub_mul]
      omega
    · rw [sumZ_updw (p := n) (by omega), upd_no (fun h => e h.symm)]
      omega
def wgt (b p i : Nat) : Int := ((b ^ (p - 1 - i) : Nat) : Int)
def codeE (b p : Nat) (F : Nat → Int) : Int := sumZ (fun j => F j * wgt b p j) p
theorem code_le {n p : Nat} {e : Nat → Int} (he : Eff p (n : Int) e) : codeE (n + 1) p e ≤ (n : Int) * wgt (n + 1) p 0 := by
  have h1 : codeE (n + 1) p e ≤ sumZ (fun j => wgt (n + 1) p 0 * e j) p := by
    refine sumZ_le fun i hi => ?_
    have h2 : wgt (n + 1) p i ≤ wgt (n + 1) p 0 := by
      unfold wgt
      have := Nat.pow_le_pow_right (show 0 < n + 1 by omega) (show p - 1 - i ≤ p - 1 - 0 by omega)
      omega
    have := Int.mul_le_mul_of_nonneg_left h2 (he.pos i hi)
    rw [Int.mul_comm (wgt (n + 1) p 0)]
    exact this
  rw [sumZ_mul, he.sum, Int.mul_comm] at h1
  exact h1
theorem code_nxt {n p k : Nat} {e : Nat → Int} (he : Eff p (n : Int) e) (h0 : 0 < k) (hk : k < p) (hek : e k ≠ 0) (ht : ∀ i, k < i → i < p → e i = 0) : codeE (n + 1) p e < codeE (n + 1) p (nxt p k e) := by
  have hp := he.pos k hk
  have hle : e k ≤ n := by
    have := sum_two he.pos (Nat.zero_le k) hk
    have h2 : sumZ e 0 = 0 := rfl
    have := he.sum
    omega
  unfold codeE nxt
  rw [sumZ_updw (by omega), sumZ_updw (by omega), sumZ_updw hk, upd_no (show p - 1 ≠ k - 1 by omega), upd_no (show k - 1 ≠ k by omega)]
  have hu : upd e k 0 (p - 1) = 0 := by
    by_cases c : p - 1 = k
    · rw [c, upd_at]
    · rw [upd_no c]; exact ht (p - 1) (by omega) (by omega)
  have hwl : wgt (n + 1) p (p - 1) = 1 := by
    unfold wgt
    rw [show p - 1 - (p - 1) = 0 from by omega]; rfl
  have hwk : wgt (n + 1) p (k - 1) = ((n : Int) + 1) * wgt (n + 1) p k := by
    unfold wgt
    rw [show p - 1 - (k - 1) = (p - 1 - k) + 1 from by omega, Nat.pow_succ, Nat.mul_comm, Int.natCast_mul]
    rfl
  have hw1 : 1 ≤ wgt (n + 1) p k := by
    unfold wgt
    have := Nat.pow_pos (n := p - 1 - k) (show 0 < n + 1 by omega)
    omega
  rw [hu, hwl, hwk]
  generalize wgt (n + 1) p k = W at *
  generalize sumZ (fun j => e j * wgt (n + 1) p j) p = S at *
  generalize e k = x at *
  generalize e (k - 1) = y at *
  have h1 : (1 : Int) * W ≤ ((n : Int) + 1 - x) * W := Int.mul_le_mul_of_nonneg_right (by omega) (by omega)
  rw [Int.sub_mul] at h1
  have h2 : (y + 1 - y) * (((n : Int) + 1) * W) = ((n : Int) + 1) * W := by
    rw [show y + 1 - y = (1 : Int) from by omega, Int.one_mul]
  have h3 : (0 - x) * W = - (x * W) := by rw [Int.sub_mul]; omega
  rw [h2, h3]
  omega

set_option maxHeartbeats 8000000 in
set_option maxRecDepth 1000000 in
theorem rwins_any (p m : Nat) (ea : Option Addr) (ec : Nat) (f : Nat → Nat → Int) (da : Option Addr) (dc : Nat) (zs : List Int) (w : World) (hE : Mem.Rows w ea m 3 (fun i j => .int .i64 (f i j))) (hok : GOk p m f) (hD : Ints.Is w da p zs) (hz : ∀ k, k < p → -1100 ≤ zs.getD k 0 ∧ zs.getD k 0 ≤ 1100) :
    Calls Tryd.prog 58 #[.agg #[.int .i64 (p : Int), .slice ea m ec], .slice da p dc] w (WinPost p (fun a b => btw f a b m) (fun k => zs.getD k 0) w) := by
  have hp10 := hok.p10
  have h0 := hok.p1
  obtain ⟨a, ha⟩ : ∃ a, p = a + 1 := ⟨p - 1, by omega⟩
  have HWS : Hid (Win p (fun a b => btw f a b m) (fun k => zs.getD k 0) → 0 ≤ sumZ (fun k => zs.getD k 0) p) := fun h => h.sum (gr_of hok).sym
  have HE := Lib.hid hE
  have HD := Lib.hid hD
  have HOK := Lib.hid hok
  have HZ := Lib.hid hz
  have hpa : (p : Int) - 1 = (a : Int) := by omega
  have hap : a < p := by omega
  have hap2 : (a : Int) < (p : Int) := by omega
  have ha1 : (-9223372036854775808 : Int) ≤ (a : Int) := by omega
  have ha2 : (a : Int) ≤ 9223372036854775807 := by omega
  clear hE hD hok hz ha
  go_enter Tryd.func58, Tryd.ntmps58
  go_upto_region 1 with fail
  have hR : Row (w.alloc (.cells #[.int .i64 (p : Int), .slice ea m ec] 24)) w.heap.size 24 [.int .i64 (p : Int), .slice ea m ec] := row_alloc w _ _
  have hB : Below w.heap.size w (w.alloc (.cells #[.int .i64 (p : Int), .slice ea m ec] 24)) := (Below.refl _ _).alloc (Nat.le_refl _) _
  have HG := Lib.hid hR
  have HB := Lib.hid hB
  clear hR hB
  generalize w.alloc (.cells #[.int .i64 (p : Int), .slice ea m ec] 24) = w1 at *
  have HSU := Lib.hid (rsumZ_any da p dc zs w1 (HD.out.keep HB.out) hp10)
  rw [wrap_sum hp10 HZ.out] at HSU
  obtain ⟨s, hs⟩ : ∃ s, s = sumZ (fun k => zs.getD k 0) p := ⟨_, rfl⟩
  rw [← hs] at HSU HWS
  clear hs
  go_wp2_with fail
  refine HSU.out.mono ?_
  rintro e1 w2 ⟨rfl, rfl⟩
  clear HSU
  by_cases hs0 : s < 0
  · have HT : Hid (WinPost p (fun a b => btw f a b m) (fun k => zs.getD k 0) w (.returned (.bool false)) w2) := win_post false ⟨fun h => (by cases h), fun h => absurd (HWS.out h) (by omega)⟩ HB.out
    go_wp2_with fail
    go_ret
    exact HT.out
  · have g0 := HG.out.cell 0
    dsimp only [List.getElem?_cons_zero] at g0
    have l1 := row_range HG.out
    go_wp2_with (refine wpList_load_mid rfl 24 _ rfl w.heap.size 0 rfl _ _ l1 Tryd.underlying24 rfl infoGraph ?_)
    refine (rreduced_any p a m ea ec f da dc zs w2 (rows_keep HE.out HB.out) HOK.out hap (HD.out.keep HB.out) HZ.out).mono ?_
    rintro e1 w3 ⟨b, c, R, rfl, hv, he, hr, hb3⟩
    have HQ : Hid (∀ q : Bool, (q = true ↔ 0 ≤ R a) → (q = true ↔ Win p (fun a b => btw f a b m) fun k => zs.getD k 0)) := fun q hq => hq.trans (win_iff hap he hr).symm
    have HB3 := Lib.hid (HB.out.trans (hb3.mono HB.out.size))
    have c1 := hv.cell hap
    have g0 := (HG.out.keep hb3 HG.out.lt).cell 0
    dsimp only [List.getElem?_cons_zero] at g0
    clear hv he hr hb3 HWS l1
    generalize R a = r at *
    go_wp2_with fail
    go_ret
    exact win_post (decide (0 ≤ r)) (HQ.out _ decide_eq_true_iff) HB3.out

set_option maxHeartbeats 8000000 in
set_option maxRecDepth 1000000 in
theorem first_any (a : Nat) (n : Int) (w : World) (hp : a + 1 ≤ 10) :
    Calls Tryd.prog 57 #[.int .i64 ((a + 1 : Nat) : Int), .int .i64 n] w fun e w' => (∃ b c : Nat, e = .returned (.slice (some ⟨b, 0, none⟩) (a + 1) c) ∧ w.heap.size ≤ b ∧ Vec w' b (a + 1) (upd (fun _ => 0) a n)) ∧ Below w.heap.size w w' := by
  obtain ⟨i0, hI0, hz0, hz1, hz2⟩ := info_parts infoIntN
  obtain ⟨p, hpa⟩ : ∃ p, p = a + 1 := ⟨_, rfl⟩
  rw [← hpa] at hp ⊢
  have hpi : (p : Int) - 1 = (a : Int) := by omega
  have hap : a < p := by omega
  have hap2 : (a : Int) < (p : Int) := by omega
  have ha1 : (-9223372036854775808 : Int) ≤ (a : Int) := by omega
  have ha2 : (a : Int) ≤ 9223372036854775807 := by omega
  clear hpa
  go_enter Tryd.func57, Tryd.ntmps57
  go_upto_region 2 with (refine Ops.wpList_make rfl 25 _ _ rfl 3 i0 (.int .i64 0) Tryd.underlying25 hI0 hz0 rfl hz1 (by rw [hz2]; decide) p rfl rfl (by omega) ?_; intro b w2 hbe hb2 hR2)
  have hv := row_made hR2
  have c1 := hv.cell hap
  have c2 := hv.frozen a
  have HV := Lib.hid (hv.set hap n)
  have HB := Lib.hid (hb2.trans ((only_setCell w2 b a (.int .i64 n)).below hbe))
  clear hv hb2 hR2
  go_wp2_with fail
  go_ret
  exact ⟨⟨b, p, rfl, hbe, HV.out⟩, HB.out⟩

set_option maxHeartbeats 8000000 in
set_option maxRecDepth 1000000 in
theorem next_any (p b c : Nat) (F : Nat → Int) (w : World) (hp : p ≤ 10) (h0 : 0 < p) (hV : Vec w b p F) (hF : ∀ k, k < p → 0 ≤ F k ∧ F k ≤ 100) :
    Calls Tryd.prog 59 #[.slice (some ⟨b, 0, none⟩) p c] w fun e w' => (e = .returned (.bool false) ∧ w' = w ∧ ∀ i, 0 < i → i < p → F i = 0) ∨ (e = .returned (.bool true) ∧ Only b w w' ∧ ∃ k, 0 < k ∧ k < p ∧ F k ≠ 0 ∧ (∀ i, k < i → i < p → F i = 0) ∧ Vec w' b p (nxt p k F)) := by
  have HV := Lib.hid hV
  have HF := Lib.hid hF
  clear hV hF
  obtain ⟨a, ha⟩ : ∃ a, p = a + 1 := ⟨p - 1, by omega⟩
  have hpi : (p : Int) - 1 = (a : Int) := by omega
  have hap : a < p := by omega
  have hap2 : (a : Int) < (p : Int) := by omega
  have ha1 : (-9223372036854775808 : Int) ≤ (a : Int) := by omega
  have ha2 : (a : Int) ≤ 9223372036854775807 := by omega
  have HA := Lib.hid ha
  clear ha
  go_enter Tryd.func59, Tryd.ntmps59
  go_wp2_with fail
  go_loopw [4] (fun z wr => ∃ k : Int, -1 ≤ k ∧ k < (p : Int) ∧ z = .int .i64 k ∧ wr = w ∧ ∀ i : Nat, k < (i : Int) → i < p → F i = 0) (fun z _ => (intOf z + 1).toNat)
  case atStart => exact ⟨(a : Int), by omega, by omega, rfl, rfl, fun i h1 h2 => by have := HA.out; omega⟩
  case round =>
    obtain ⟨k, hk1, hk2, rfl, rfl, hz⟩ := hrel
    have HZ := Lib.hid hz
    clear hz
    by_cases hneg : k < 0
    · have HT : Hid (∀ i, 0 < i → i < p → F i = 0) := fun i h1 h2 => HZ.out i (by omega) h2
      have hle : k ≤ 0 := by omega
      go_wp2_with fail
      go_ret
      exact .inl ⟨rfl, rfl, HT.out⟩
    · obtain ⟨j, rfl⟩ := Int.eq_ofNat_of_zero_le (a := k) (by omega)
      have hj : j < p := by omega
      have e1 := HV.out.cell hj
      have hfj := HF.out j hj
      by_cases hx : F j = 0
      · have HNX : Hid (∀ i : Nat, (j : Int) - 1 < (i : Int) → i < p → F i = 0) := fun i h1 h2 => by
          by_cases c : i = j
          · rw [c]; exact hx
          · exact HZ.out i (by omega) h2
        rw [hx] at e1
        clear hx hfj
        have hw1 : (-9223372036854775808 : Int) ≤ (j : Int) - 1 := by omega
        have hw2 : (j : Int) - 1 ≤ 9223372036854775807 := by omega
        go_wp2_with fail
        go_roundw
        case rel => exact ⟨(j : Int) - 1, by omega, by omega, by first | rfl | trivial, by trivial, HNX.out⟩
        case measure => simp [intOf] <;> omega
      · have HX := Lib.hid hx
        have b1 : (F j == 0) = false := by rw [beq_eq_false_iff_ne]; exact hx
        by_cases hj0 : j = 0
        · have HT : Hid (∀ i, 0 < i → i < p → F i = 0) := fun i h1 h2 => HZ.out i (by omega) h2
          obtain ⟨x, hxx⟩ : ∃ x, x = F j := ⟨_, rfl⟩
          rw [← hxx] at e1 b1
          clear hx hxx hfj HX
          subst hj0
          go_wp2_with fail
          go_ret
          exact .inl ⟨rfl, rfl, HT.out⟩
        · have hj2 : ¬ (j : Int) ≤ 0 := by omega
          have hjm : (j : Int) - 1 = ((j - 1 : Nat) : Int) := by omega
          obtain ⟨i, hi⟩ : ∃ i, i = j - 1 := ⟨_, rfl⟩
          rw [← hi] at hjm
          have hij : i < p := by omega
          have hij2 : (i : Int) < (p : Int) := by omega
          have hij3 : (-9223372036854775808 : Int) ≤ (i : Int) := by omega
          have hij4 : (i : Int) ≤ 9223372036854775807 := by omega
          have HI := Lib.hid hi
          have hfi := HF.out i hij
          clear hi hx
          obtain ⟨x, hxx⟩ : ∃ x, x = F j := ⟨_, rfl⟩
          have HXX := Lib.hid hxx
          rw [← hxx] at e1 b1 hfj
          clear hxx
          obtain ⟨y, hyy⟩ : ∃ y, y = F i := ⟨_, rfl⟩
          have HYY := Lib.hid hyy
          rw [← hyy] at hfi
          clear hyy
          have z1 := HV.out.frozen j
          go_upto_region 9 with fail
          have HV1 := Lib.hid (HV.out.set hj 0)
          have HO1 := Lib.hid (only_setCell wr b j (.int .i64 0))
          clear e1 z1
          generalize wr.setCell ⟨b, j, none⟩ (.int .i64 0) = w1 at *
          have e2 := HV1.out.cell hij
          rw [upd_no (by have := HI.out; omega), ← HYY.out] at e2
          have z2 := HV1.out.frozen i
          have hy1 : (-9223372036854775808 : Int) ≤ y + 1 := by omega
          have hy2 : y + 1 ≤ 9223372036854775807 := by omega
          go_upto_region 10 with fail
          have HV2 := Lib.hid (HV1.out.set hij (y + 1))
          have HO2 := Lib.hid (HO1.out.trans (only_setCell w1 b i (.int .i64 (y + 1))))
          clear e2 z2
          generalize w1.setCell ⟨b, i, none⟩ (.int .i64 (y + 1)) = w2 at *
          have e3 := HV2.out.cell hap
          have z3 := HV2.out.frozen a
          generalize upd (upd F j 0) i (y + 1) a = u at e3
          have hx1 : (-9223372036854775808 : Int) ≤ x - 1 := by omega
          have hx2 : x - 1 ≤ 9223372036854775807 := by omega
          have HV3 := Lib.hid (HV2.out.set hap (x - 1))
          have HO3 := Lib.hid (HO2.out.trans (only_setCell w2 b a (.int .i64 (x - 1))))
          have HNX : Hid (upd (upd (upd F j 0) i (y + 1)) a (x - 1) = nxt p j F) := by
            show _ = _
            unfold nxt
            rw [← HI.out, ← HYY.out, ← HXX.out, show p - 1 = a from by have := HA.out; omega]
          rw [HNX.out] at HV3
          go_wp2_with fail
          go_ret
          exact .inr ⟨rfl, HO3.out, j, by omega, hj, HX.out, fun i h1 h2 => HZ.out i (by omega) h2, HV3.out⟩
end Ch
end Go.Proofs.YtjikildiblchpaaDoor

/- WALK of the document's answer: edenref6.Lost, Rank. -/
namespace Go.Proofs.YtjikildiblchpaaDoor
set_option linter.unusedSimpArgs false
set_option linter.unusedVariables false
open Go.RowKit Go.Lib
namespace Ch
open Tld Mem Rt

theorem cell_grown {w w' : World} {B b o n : Nat} {e : TypeId} {v : Value} {xs : List Value} (hg : w.grownBy w' v.ownBlock) (ho : w.ownsRow B e 1 v n xs) (hb : b < B) (hl : b < w.heap.size) : w'.cell? ⟨b, o, none⟩ = w.cell? ⟨b, o, none⟩ :=
  World.cell?_of_block (hg.block b hl (fun e => by have := own_low ho b e.symm; omega))
theorem lstF_snoc {n : Nat} {F : Nat → Int} : (lstF (n + 1) F).map (Value.int .i64) = (lstF n F).map (Value.int .i64) ++ [.int .i64 (F n)] := by
  unfold lstF
  rw [List.range_succ, List.map_append, List.map_append]; rfl
/-- All ahead of one are won. -/
def LexW (p : Nat) (n : Int) (W : (Nat → Int) → Prop) (e : Nat → Int) : Prop := ∀ e', Eff p n e' → LexL p e' e → W e'
/-- What Lost comes to. -/
def LostPost (p : Nat) (W : (Nat → Int) → Prop) (n : Int) (w : World) (e : Ending) (w' : World) : Prop :=
  ((e = .returned (.tuple #[.slice none 0 0, .bool false]) ∧ AllW p W n) ∨ (∃ (b c : Nat) (g : Nat → Int), e = .returned (.tuple #[.slice (some ⟨b, 0, none⟩) p c, .bool true]) ∧ First p n W g ∧ Vec w' b p g)) ∧ Below w.heap.size w w'

set_option maxHeartbeats 16000000 in
set_option maxRecDepth 1000000 in
theorem lost_any (p m n : Nat) (ea : Option Addr) (ec : Nat) (f : Nat → Nat → Int) (da : Option Addr) (dc : Nat) (zs : List Int) (w : World) (hE : Mem.Rows w ea m 3 (fun i j => .int .i64 (f i j))) (hok : GOk p m f) (hD : Ints.Is w da p zs) (hz : ∀ k, k < p → -1000 ≤ zs.getD k 0 ∧ zs.getD k 0 ≤ 1000) (hn : n ≤ 100) :
    Calls Tryd.prog 42 #[.agg #[.int .i64 (p : Int), .slice ea m ec], .slice da p dc, .int .i64 (n : Int)] w (LostPost p (Tak p (fun a b => btw f a b m) zs) (n : Int) w) := by
  have hp10 := hok.p10
  have h0 := hok.p1
  obtain ⟨a, ha⟩ : ∃ a, p = a + 1 := ⟨p - 1, by omega⟩
  have HE := Lib.hid hE
  have HD := Lib.hid hD
  have HDL := Lib.hid hD.len
  have HOK := Lib.hid hok
  have HZ := Lib.hid hz
  have HA := Lib.hid ha
  have HP1 : Hid (p ≤ maxLen) := by unfold maxLen; show _ ≤ _; omega
  clear hE hD hok hz ha
  obtain ⟨i0, hI0, hz0, hz1, hz2⟩ := info_parts infoIntN
  have HI0 := Lib.hid hI0
  have HZ0 := Lib.hid hz0
  have HZ1 := Lib.hid hz1
  have HZ2 := Lib.hid hz2
  clear hI0 hz0 hz1 hz2
  go_enter Tryd.func42, Tryd.ntmps42
  go_upto_region 1 with fail
  have hR : Row (w.alloc (.cells #[.int .i64 (p : Int), .slice ea m ec] 24)) w.heap.size 24 [.int .i64 (p : Int), .slice ea m ec] := row_alloc w _ _
  have hB : Below w.heap.size w (w.alloc (.cells #[.int .i64 (p : Int), .slice ea m ec] 24)) := (Below.refl _ _).alloc (Nat.le_refl _) _
  have HG := Lib.hid hR
  have HB := Lib.hid hB
  clear hR hB
  generalize w.alloc (.cells #[.int .i64 (p : Int), .slice ea m ec] 24) = w1 at *
  have g0 := HG.out.cell 0
  dsimp only [List.getElem?_cons_zero] at g0
  have HF1 := Lib.hid (first_any a (n : Int) w1 (by have := HA.out; omega))
  rw [← HA.out] at HF1
  go_wp2_with fail
  refine HF1.out.mono ?_
  rintro e1 w2 ⟨⟨be, ce, rfl, hbe, hve⟩, hb2⟩
  have hwb : w.heap.size < be := by have := HG.out.lt; omega
  have HV := Lib.hid hve
  have HG2 := Lib.hid (HG.out.keep hb2 HG.out.lt)
  have HB2 := Lib.hid (HB.out.trans (hb2.mono HB.out.size))
  have HEF : Hid (Eff p (n : Int) (upd (fun _ => 0) a (n : Int))) := by
    have := first_eff (p := a) (n := (n : Int)) (by omega)
    rw [← HA.out] at this
    exact this
  have HLW : Hid (LexW p (n : Int) (Tak p (fun a b => btw f a b m) zs) (upd (fun _ => 0) a (n : Int))) := fun e' he hl => by
    rw [HA.out] at he hl
    exact absurd hl (first_none he)
  clear hbe hve hb2 HF1 HG HB g0
  go_wp2_with fail
  go_loopg [9] (((n : Int) * wgt (n + 1) p 0 - codeE (n + 1) p (upd (fun _ => 0) a (n : Int))).toNat + 1) (fun gg z wr => ∃ (q : Bool) (F : Nat → Int), z = .bool q ∧ (q = true → Eff p (n : Int) F ∧ LexW p (n : Int) (Tak p (fun a b => btw f a b m) zs) F ∧ gg = ((n : Int) * wgt (n + 1) p 0 - codeE (n + 1) p F).toNat + 1) ∧ (q = false → AllW p (Tak p (fun a b => btw f a b m) zs) (n : Int)) ∧ Vec wr be p F ∧ Row wr w.heap.size 24 [.int .i64 (p : Int), .slice ea m ec] ∧ Below w.heap.size w wr)
  case atStart => exact ⟨true, _, rfl, fun _ => ⟨HEF.out, HLW.out, rfl⟩, fun h => (by cases h), HV.out, HG2.out, HB2.out⟩
  case round =>
    clear HV HG2 HB2 HEF HLW
    obtain ⟨q, F, rfl, hq1, hq2, hv, hg, hb⟩ := hrel
    have HG := Lib.hid hg
    have HB := Lib.hid hb
    have HV := Lib.hid hv
    clear hg hb hv
    cases q
    case false =>
      have HT : Hid (LostPost p (Tak p (fun a b => btw f a b m) zs) (n : Int) w (.returned (.tuple #[.slice none 0 0, .bool false])) wr) := ⟨.inl ⟨rfl, hq2 rfl⟩, HB.out⟩
      clear hq1 hq2
      go_wp2_with fail
      go_ret2
      exact HT.out
    case true =>
      obtain ⟨hef, hlw, hgg⟩ := hq1 rfl
      have HEF := Lib.hid hef
      have HLW := Lib.hid hlw
      have HGG := Lib.hid hgg
      have HFB : Hid (∀ k, k < p → 0 ≤ F k ∧ F k ≤ 100) := fun k hk => by
        have h1 := sum_two HEF.out.pos (Nat.zero_le k) hk
        have h2 : sumZ F 0 = 0 := rfl
        have h3 := HEF.out.sum
        have h4 := HEF.out.pos k hk
        omega
      clear hq1 hq2 hef hlw hgg
      go_wp2_with fail
      obtain ⟨wo, rfl⟩ : ∃ wo : World, wo = wr := ⟨_, rfl⟩
      obtain ⟨B1, hB1⟩ : ∃ b, b = wo.heap.size := ⟨_, rfl⟩
      have hbe1 : be < B1 := by rw [hB1]; exact HV.out.lt
      have HBE := Lib.hid hB1
      clear hB1
      go_loopw [10, 11] (fun y z wx => ∃ k : Nat, k ≤ p ∧ z = .int .i64 (k : Int) ∧ wx.ownsRow B1 3 1 y k ((lstF k fun j => zs.getD j 0 - F j).map (Value.int .i64)) ∧ Below B1 wo wx) (fun _ z _ => p - (intOf z).toNat)
      case atStart => exact ⟨0, Nat.zero_le _, rfl, own_nil _ _, Below.refl _ _⟩
      case round =>
        obtain ⟨k, hkp, rfl, hown, hbx⟩ := hrel
        obtain ⟨ay, cy, rfl⟩ := own_slice hown
        have HU := Lib.hid hown
        have HL := Lib.hid hbx
        have hszr : B1 ≤ wr.heap.size := by have := HL.out.size; have := HBE.out; omega
        clear hown hbx
        by_cases hk : k < p
        · have hk2 : (k : Int) < (p : Int) := by omega
          obtain ⟨bz, oz, ez, hbz, hcz⟩ := (HD.out.keep HB.out).cells k hk
          dsimp only at hcz
          have c1 : wr.cell? ⟨bz, oz + k, none⟩ = some (.int .i64 (zs.getD k 0)) := cell_keep hcz (by rw [← HBE.out]; exact HL.out)
          have c2 : wr.cell? ⟨be, k, none⟩ = some (.int .i64 (F k)) := cell_keep (HV.out.cell hk) (by rw [← HBE.out]; exact HL.out)
          have hbzB : bz < B1 := by rw [HBE.out]; exact hbz
          have hbzr : bz < wr.heap.size := by omega
          have hber : be < wr.heap.size := by omega
          have HNX : Hid ((lstF (k + 1) fun j => zs.getD j 0 - F j).map (Value.int .i64) = ((lstF k fun j => zs.getD j 0 - F j).map (Value.int .i64)) ++ [.int .i64 (zs.getD k 0 - F k)]) := lstF_snoc
          have hz1 := HZ.out k hk
          have hf1 := HFB.out k hk
          subst ez
          obtain ⟨x, hx⟩ : ∃ x, x = zs.getD k 0 := ⟨_, rfl⟩
          rw [← hx] at c1 hz1 HNX
          clear hx
          obtain ⟨y, hy⟩ : ∃ y, y = F k := ⟨_, rfl⟩
          rw [← hy] at c2 hf1 HNX
          clear hy hcz
          have u1 : IntKind.i64.wrap (x - y) = x - y := by rw [IntKind.wrap_i64]; omega
          have HAL : Hid (Below wr.heap.size wr (wr.alloc (.cells #[.int .i64 (x - y)] 3)).drew) := ((Below.refl _ _).alloc (Nat.le_refl _) (.cells #[.int .i64 (x - y)] 3)).drew
          go_upto_region 8 with fail
          go_region_held3 (fun w' => w'.cell? ⟨bz, oz + k, none⟩ = some (.int .i64 x) ∧ w'.cell? ⟨be, k, none⟩ = some (.int .i64 y))
            (first
              | go_keep
              | (refine ⟨?_, ?_⟩
                 · exact (cell_grown hg2 HOA.out hbzB (by simp; omega)).trans ((HAL.out.cell (p := ⟨bz, oz + k, none⟩) hbzr).trans c1)
                 · exact (cell_grown hg2 HOA.out hbe1 (by simp; omega)).trans ((HAL.out.cell (p := ⟨be, k, none⟩) hber).trans c2)))
            ((have HOA := Lib.hid (own_keep HU.out HAL.out); refine step_append1 (by rfl) _ _ 25 (by rfl) B1 3 i0 (.int .i64 0) 8 Tryd.underlying25 HI0.out HZ0.out rfl HZ1.out HZ2.out _ _ _ (by rfl) HOA.out ⟨wr.heap.size, 0, none⟩ 1 (.int .i64 (x - y)) (by rfl) ((row_alloc wr 3 [.int .i64 (x - y)]).drew.cell 0) rfl (by unfold maxLen; omega) (by omega) (by simp; omega) ?_; intro ao2 co2 w2 hO2 hg2))
          rw [← HNX.out] at hO2
          have HU2 := Lib.hid hO2
          have HL2 := Lib.hid ((HL.out.trans (HAL.out.mono hszr)).grown hg2 (by have h2 := HAL.out.size; omega) (own_low HOA.out))
          clear hO2 hg2 HOA HAL c1 c2 u1 hbzB hbzr hber HNX HU HL
          go_wp2_with fail
          go_roundw
          case rel => exact ⟨k + 1, by omega, by go_num, HU2.out, HL2.out⟩
          case measure => simp [intOf]; omega
        · obtain rfl : k = p := by omega
          obtain ⟨p, rfl⟩ : ∃ q, q = k := ⟨_, rfl⟩
          have HBX := Lib.hid (show Below wo.heap.size wo wr by rw [← HBE.out]; exact HL.out)
          have HBW := Lib.hid (HB.out.trans (HBX.out.mono HB.out.size))
          have HRI := Lib.hid (own_is HU.out lstF_len HP1.out).1
          have HGW := Lib.hid (HG.out.keep HBX.out HG.out.lt)
          have HVW := Lib.hid (HV.out.keep HBX.out HV.out.lt)
          have HWZ : Hid (∀ k, k < p → -1100 ≤ (lstF p fun j => zs.getD j 0 - F j).getD k 0 ∧ (lstF p fun j => zs.getD j 0 - F j).getD k 0 ≤ 1100) := fun k hk => by
            rw [lstF_get hk]
            have := HZ.out k hk
            have := HFB.out k hk
            omega
          have HWE : Hid (Win p (fun a b => btw f a b m) (fun k => (lstF p fun j => zs.getD j 0 - F j).getD k 0) ↔ Tak p (fun a b => btw f a b m) zs F) := ⟨fun h => Win.congr h fun k hk => by rw [lstF_get hk], fun h => Win.congr h fun k hk => by rw [lstF_get hk]⟩
          have l1 := row_range HGW.out
          go_wp2_with (refine wpList_load_mid rfl 24 _ rfl w.heap.size 0 rfl _ _ l1 Tryd.underlying24 rfl infoGraph ?_)
          clear l1
          refine (rwins_any p m ea ec f ay cy (lstF p fun j => zs.getD j 0 - F j) wr (rows_keep HE.out HBW.out) HOK.out HRI.out HWZ.out).mono ?_
          rintro e1 w4 ⟨⟨q, rfl, hq⟩, hb4⟩
          have HQ := Lib.hid (hq.trans HWE.out)
          have HB4 := Lib.hid (HBW.out.trans (hb4.mono HBW.out.size))
          have HG4 := Lib.hid (HGW.out.keep hb4 HGW.out.lt)
          have HV4 := Lib.hid (HVW.out.keep hb4 HVW.out.lt)
          clear hq hb4 HWE HWZ HRI HU HL HBX HBW HGW HVW HG HB HV
          cases q
          case false =>
            have HT : Hid (LostPost p (Tak p (fun a b => btw f a b m) zs) (n : Int) w (.returned (.tuple #[.slice (some ⟨be, 0, none⟩) p ce, .bool true])) w4) := ⟨.inr ⟨be, ce, F, rfl, ⟨HEF.out, fun h => (by have := HQ.out.2 h; cases this), HLW.out⟩, HV4.out⟩, HB4.out⟩
            go_wp2_with fail
            go_ret2
            exact HT.out
          case true =>
            have HWF := Lib.hid (HQ.out.1 rfl)
            go_wp2_with fail
            refine (next_any p be ce F w4 hp10 h0 HV4.out HFB.out).mono ?_
            rintro e1 w5 (⟨rfl, rfl, hz⟩ | ⟨rfl, ho, j, hj0, hjp, hjn, hjz, hv5⟩)
            · have HALL : Hid (AllW p (Tak p (fun a b => btw f a b m) zs) (n : Int)) := fun e' he' => by
                rcases next_none HEF.out hz he' with h | h
                · exact Tak.congr (fun k hk => (h k hk).symm) HWF.out
                · exact HLW.out e' he' h
              clear hz
              go_wp2_with fail
              go_roundg 0
              case measure => have := HGG.out; omega
              case rel => exact ⟨false, F, rfl, fun h => (by cases h), fun _ => HALL.out, HV4.out, HG4.out, HB4.out⟩
            · have HEF5 := Lib.hid (nxt_eff HEF.out hj0 hjp hjn hjz)
              have HLW5 : Hid (LexW p (n : Int) (Tak p (fun a b => btw f a b m) zs) (nxt p j F)) := fun e' he' hl => by
                rcases nxt_lex HEF.out hj0 hjp hjn hjz he' hl with h | h
                · exact Tak.congr (fun k hk => (h k hk).symm) HWF.out
                · exact HLW.out e' he' h
              have HC1 := Lib.hid (code_nxt HEF.out hj0 hjp hjn hjz)
              have HC2 := Lib.hid (code_le HEF5.out)
              have HV5 := Lib.hid hv5
              have HG5 := Lib.hid (HG4.out.other ho (by omega))
              have HB5 := Lib.hid (HB4.out.trans (ho.below (by omega)))
              clear ho hj0 hjp hjn hjz hv5
              go_wp2_with fail
              go_roundg (((n : Int) * wgt (n + 1) p 0 - codeE (n + 1) p (nxt p j F)).toNat + 1)
              case measure => have := HGG.out; have := HC1.out; have := HC2.out; omega
              case rel => exact ⟨true, nxt p j F, rfl, fun _ => ⟨HEF5.out, HLW5.out, rfl⟩, fun h => (by cases h), HV5.out, HG5.out, HB5.out⟩

set_option maxHeartbeats 16000000 in
set_option maxRecDepth 1000000 in
theorem rrank_any (p m : Nat) (ea : Option Addr) (ec : Nat) (f : Nat → Nat → Int) (da : Option Addr) (dc : Nat) (zs : List Int) (w : World) (hE : Mem.Rows w ea m 3 (fun i j => .int .i64 (f i j))) (hok : GOk p m f) (hD : Ints.Is w da p zs) (hz : ∀ k, k < p → -1000 ≤ zs.getD k 0 ∧ zs.getD k 0 ≤ 1000) (hs : sumZ (fun k => zs.getD k 0) p ≤ 12) :
    Calls Tryd.prog 20 #[.agg #[.int .i64 (p : Int), .slice ea m ec], .slice da p dc] w fun e w' => (∃ (k b c : Nat) (g : Nat → Int), e = .returned (.tuple #[.int .i64 ((k : Int) - 1), .slice (some ⟨b, 0, none⟩) p c]) ∧ RankIs p (Tak p (fun a b => btw f a b m) zs) k g ∧ Vec w' b p g) ∧ Below w.heap.size w w' := by
  have h0 := hok.p1
  have HE := Lib.hid hE
  have HD := Lib.hid hD
  have HOK := Lib.hid hok
  have HZ := Lib.hid hz
  have HSY := Lib.hid (gr_of hok).sym
  have HS := Lib.hid hs
  clear hE hD hok hz hs
  go_enter Tryd.func20, Tryd.ntmps20
  go_upto_region 1 with fail
  have hR : Row (w.alloc (.cells #[.int .i64 (p : Int), .slice ea m ec] 24)) w.heap.size 24 [.int .i64 (p : Int), .slice ea m ec] := row_alloc w _ _
  have hB : Below w.heap.size w (w.alloc (.cells #[.int .i64 (p : Int), .slice ea m ec] 24)) := (Below.refl _ _).alloc (Nat.le_refl _) _
  have HG := Lib.hid hR
  have HB := Lib.hid hB
  clear hR hB
  generalize w.alloc (.cells #[.int .i64 (p : Int), .slice ea m ec] 24) = w1 at *
  go_wp2_with fail
  go_loopw [6] (fun z wr => ∃ k : Nat, k ≤ 13 ∧ z = .int .i64 (k : Int) ∧ (∀ j : Nat, j < k → AllW p (Tak p (fun a b => btw f a b m) zs) (j : Int)) ∧ Row wr w.heap.size 24 [.int .i64 (p : Int), .slice ea m ec] ∧ Below w.heap.size w wr) (fun z _ => 14 - (intOf z).toNat)
  case atStart => exact ⟨0, by omega, rfl, fun j hj => absurd hj (Nat.not_lt_zero _), HG.out, HB.out⟩
  case round =>
    clear HG HB
    obtain ⟨k, hk, rfl, hless, hg, hb⟩ := hrel
    have HLS := Lib.hid hless
    have HG := Lib.hid hg
    have HB := Lib.hid hb
    clear hless hg hb
    have l1 := row_range HG.out
    go_wp2_with (refine wpList_load_mid rfl 24 _ rfl w.heap.size 0 rfl _ _ l1 Tryd.underlying24 rfl infoGraph ?_)
    clear l1
    refine (lost_any p m k ea ec f da dc zs wr (rows_keep HE.out HB.out) HOK.out (HD.out.keep HB.out) HZ.out (by omega)).mono ?_
    rintro e1 w3 ⟨⟨rfl, hall⟩ | ⟨b, c, g, rfl, hfst, hv⟩, hb3⟩
    · have hk12 : (k : Int) ≤ 12 := Int.le_trans (won_small HSY.out (by omega) h0 hall) HS.out
      have HLS2 : Hid (∀ j : Nat, j < k + 1 → AllW p (Tak p (fun a b => btw f a b m) zs) (j : Int)) := fun j hj => by
        by_cases c : j = k
        · rw [c]; exact hall
        · exact HLS.out j (by omega)
      have HG3 := Lib.hid (HG.out.keep hb3 HG.out.lt)
      have HB3 := Lib.hid (HB.out.trans (hb3.mono HB.out.size))
      clear hall hb3
      go_wp2_with fail
      go_roundw
      case rel => exact ⟨k + 1, by omega, by go_num, HLS2.out, HG3.out, HB3.out⟩
      case measure => simp [intOf]; omega
    · have hk1 : (-9223372036854775808 : Int) ≤ (k : Int) - 1 := by omega
      have hk2 : (k : Int) - 1 ≤ 9223372036854775807 := by omega
      have HT : Hid (∃ (k' b' c' : Nat) (g' : Nat → Int), Ending.returned (.tuple #[.int .i64 ((k : Int) - 1), .slice (some ⟨b, 0, none⟩) p c]) = .returned (.tuple #[.int .i64 ((k' : Int) - 1), .slice (some ⟨b', 0, none⟩) p c']) ∧ RankIs p (Tak p (fun a b => btw f a b m) zs) k' g' ∧ Vec w3 b' p g') := ⟨k, b, c, g, rfl, ⟨HLS.out, hfst⟩, hv⟩
      have HB3 := Lib.hid (HB.out.trans (hb3.mono HB.out.size))
      clear hfst hv hb3
      go_wp2_with fail
      go_ret2
      exact ⟨HT.out, HB3.out⟩
end Ch
end Go.Proofs.YtjikildiblchpaaDoor
