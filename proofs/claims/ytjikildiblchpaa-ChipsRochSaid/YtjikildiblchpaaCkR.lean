/- RIEMANN AND ROCH ON GRAPHS (Baker and Norine), plain: every divisor has a reduced one; what burns gives an order; an order's divisor is lost; ranks. -/
import Derived.Test.YtjikildiblchpaaCkP
import Derived.Test.YtjikildiblchpaaChH
namespace Go.Proofs.Ytjikildiblchpaa
set_option linter.unusedSimpArgs false
set_option linter.unusedVariables false
open Go.RowKit Go.Lib
namespace Ch
open Tld Mem Rt

theorem off_pos {P : Nat} {w : Nat → Nat → Nat} (hG : Gr P w) {a : Nat} (ha : a < P) (D : Nat → Int) : ∃ D', Eqv P w D D' ∧ ∀ k, k < P → k ≠ a → 0 ≤ D' k := by
  obtain ⟨far, hfl, hF⟩ := exists_far hG ha
  have key : ∀ n : Nat, ∃ D', Eqv P w D D' ∧ ∀ k, k < P → P ≤ far k + n → far k ≠ 0 → 0 ≤ D' k := by
    intro n
    induction n with
    | zero => exact ⟨D, .refl, fun k hk h _ => by have := hfl k hk; omega⟩
    | succ n ih =>
      obtain ⟨D', h1, h2⟩ := ih
      by_cases hr : P ≤ n + 1
      · exact ⟨D', h1, fun k hk _ h0 => h2 k hk (by omega) h0⟩
      · obtain ⟨r, hr2⟩ : ∃ r, r + (n + 1) = P := ⟨P - (n + 1), by omega⟩
        obtain ⟨t, ht⟩ : ∃ t, t = sumZ (fun k => if D' k < 0 then - D' k else 0) P := ⟨_, rfl⟩
        have ht0 : 0 ≤ t := by
          rw [ht]
          exact sumZ_nonneg fun i _ => by split <;> omega
        refine ⟨fireZ P w D' (fun j => decide (far j < r)) t, h1.trans fire_eqv, fun k hk h h0 => ?_⟩
        have hS : ¬ (decide (far k < r)) = true := by
          intro h3
          have := of_decide_eq_true h3
          omega
        show 0 ≤ fireZ P w D' (fun j => decide (far j < r)) t k
        unfold fireZ
        rw [if_neg hS]
        have hmul := Int.mul_nonneg ht0 (Int.natCast_nonneg (inS P w (fun j => decide (far j < r)) k))
        by_cases e : far k = r
        · have hg := get_pos hF hk e (by omega)
          have h5 : t * 1 ≤ t * (inS P w (fun j => decide (far j < r)) k : Int) := Int.mul_le_mul_of_nonneg_left (by omega) ht0
          have h6 := sumZ_one (F := fun k => if D' k < 0 then - D' k else 0) (a := k) (n := P) (fun i _ => by split <;> omega) hk
          rw [← ht] at h6
          split at h6 <;> omega
        · have := h2 k hk (by omega) h0
          omega
  obtain ⟨D', h1, h2⟩ := key P
  exact ⟨D', h1, fun k hk hne => h2 k hk (by omega) fun e => hne ((hF.zero k hk).1 e)⟩
theorem Run.more {P : Nat} {w : Nat → Nat → Nat} {D : Nat → Int} {a : Nat} {σ : Nat → Int} (h : Run P w D a σ) {S : Nat → Bool} (hS : Legal P w (fun k => D k - lap P w σ k) a S) : Run P w D a (fun j => σ j + if S j then 1 else 0) where
  at0 := by rw [hS.no, h.at0]; rfl
  pos := fun k hk => by have := h.pos k hk; split <;> omega
  left := fun k hk hne => by
    have h1 := h.left k hk hne
    have h2 := fire_lap (P := P) (w := w) (D := fun k => D k - lap P w σ k) (S := S) (t := 1) (k := k)
    have h3 : lap P w (fun j => σ j + if S j then 1 else 0) k = lap P w σ k + lap P w (fun j => if S j = true then 1 else 0) k := lap_add (σ := σ) (τ := fun j => if S j = true then 1 else 0)
    rw [h3]
    unfold fireZ at h2
    by_cases c : S k = true
    · have h4 := hS.can k hk c
      rw [if_pos c] at h2
      dsimp only at h2 h4
      omega
    · rw [if_neg c] at h2
      dsimp only at h2
      have := Int.natCast_nonneg (inS P w S k)
      omega
theorem exists_reduced {P : Nat} {w : Nat → Nat → Nat} (hG : Gr P w) {a : Nat} (ha : a < P) (D : Nat → Int) : ∃ R, Eqv P w D R ∧ Reduced P w R a := by
  obtain ⟨D', h1, h2⟩ := off_pos hG ha D
  obtain ⟨b, hb⟩ := Run.ends hG D' ha
  have key : ∀ (n : Nat) (σ : Nat → Int), Run P w D' a σ → (b - sumZ σ P).toNat ≤ n → ∃ σ', Run P w D' a σ' ∧ ∀ S, Legal P w (fun k => D' k - lap P w σ' k) a S → ∀ k, k < P → S k = false := by
    intro n
    induction n with
    | zero =>
      intro σ hr hn
      refine ⟨σ, hr, fun S hS k hk => ?_⟩
      refine Bool.eq_false_iff.2 fun hk1 => ?_
      have h3 := hb _ (hr.more hS)
      have h4 := hb _ hr
      have h5 : sumZ (fun j => σ j + if S j then 1 else 0) P = sumZ σ P + sumZ (fun j => if S j then 1 else 0) P := sumZ_add
      have h6 := sumZ_one (F := fun j => if S j = true then (1 : Int) else 0) (a := k) (n := P) (fun i _ => by split <;> omega) hk
      rw [if_pos hk1] at h6
      omega
    | succ n ih =>
      intro σ hr hn
      by_cases hx : ∃ S, Legal P w (fun k => D' k - lap P w σ k) a S ∧ ∃ k, k < P ∧ S k = true
      · obtain ⟨S, hS, k, hk, hk1⟩ := hx
        refine ih _ (hr.more hS) ?_
        have h5 : sumZ (fun j => σ j + if S j then 1 else 0) P = sumZ σ P + sumZ (fun j => if S j then 1 else 0) P := sumZ_add
        have h6 := sumZ_one (F := fun j => if S j = true then (1 : Int) else 0) (a := k) (n := P) (fun i _ => by split <;> omega) hk
        rw [if_pos hk1] at h6
        omega
      · exact ⟨σ, hr, fun S hS k hk => Bool.eq_false_iff.2 fun hk1 => hx ⟨S, hS, k, hk, hk1⟩⟩
  obtain ⟨σ, hr, hn⟩ := key _ _ (run_start h2) (Nat.le_refl _)
  exact ⟨fun k => D' k - lap P w σ k, h1.trans ⟨σ, fun _ _ => rfl⟩, ⟨fun k hk hne => hr.left k hk hne, hn⟩⟩

/-- Edges to what stands lower, and higher. -/
def lowE (P : Nat) (w : Nat → Nat → Nat) (τ : Nat → Nat) (v : Nat) : Nat := sumN (fun o => if τ o < τ v then w v o else 0) P
def highE (P : Nat) (w : Nat → Nat → Nat) (τ : Nat → Nat) (v : Nat) : Nat := sumN (fun o => if τ v < τ o then w v o else 0) P
/-- An order's divisor. -/
def nu (P : Nat) (w : Nat → Nat → Nat) (τ : Nat → Nat) (v : Nat) : Int := (lowE P w τ v : Int) - 1
def Inj (P : Nat) (τ : Nat → Nat) : Prop := ∀ i j, i < P → j < P → τ i = τ j → i = j
theorem burn_order {P : Nat} {w : Nat → Nat → Nat} {R : Nat → Int} {a : Nat} (hr : Reduced P w R a) : ∃ τ, Inj P τ ∧ ∀ v, v < P → v ≠ a → R v < (lowE P w τ v : Int) := by
  have key : ∀ (m : Nat) (τ : Nat → Nat) (n : Nat), sumN (fun j => ind (¬ τ j < n)) P ≤ m → (∀ i j, i < P → j < P → τ i < n → τ j < n → τ i = τ j → i = j) → τ a < n → (∀ v, v < P → v ≠ a → τ v < n → R v < (lowE P w τ v : Int)) →
      ∃ τ, Inj P τ ∧ ∀ v, v < P → v ≠ a → R v < (lowE P w τ v : Int) := by
    intro m
    induction m with
    | zero =>
      intro τ n hm hi ha hb
      have hall : ∀ j, j < P → τ j < n := fun j hj => Classical.byContradiction fun hn => by
        have h1 := sumN_one (F := fun j => ind (¬ τ j < n)) (a := j) (n := P) hj
        have h2 : ind (¬ τ j < n) = 1 := ind_yes hn
        omega
      exact ⟨τ, fun i j a b => hi i j a b (hall i a) (hall j b), fun v hv hne => hb v hv hne (hall v hv)⟩
    | succ m ih =>
      intro τ n hm hi ha hb
      by_cases hx : ∃ k, k < P ∧ ¬ τ k < n
      · obtain ⟨k0, hk0, hn0⟩ := hx
        have hleg : ¬ Legal P w R a (fun j => !decide (τ j < n)) := fun hl => by
          have h1 := hr.none _ hl k0 hk0
          simp [hn0] at h1
        obtain ⟨k, hk, hkn, hkR⟩ : ∃ k, k < P ∧ ¬ τ k < n ∧ R k < (outS P w (fun j => !decide (τ j < n)) k : Int) := by
          refine Classical.byContradiction fun hc => hleg ⟨by simp [ha], fun k hk hs => ?_⟩
          refine Classical.byContradiction fun h2 => hc ⟨k, hk, ?_, by omega⟩
          intro h3
          simp [h3] at hs
        obtain ⟨τ', hτ⟩ : ∃ τ' : Nat → Nat, τ' = fun j => if j = k then n else if τ j < n then τ j else n + 1 := ⟨_, rfl⟩
        have e1 : τ' k = n := by rw [hτ]; exact if_pos rfl
        have e2 : ∀ j, τ j < n → τ' j = τ j := fun j hj => by
          have : j ≠ k := fun e => hkn (by rw [← e]; exact hj)
          rw [hτ]; dsimp only; rw [if_neg this, if_pos hj]
        have e3 : ∀ j, j ≠ k → ¬ τ j < n → τ' j = n + 1 := fun j hj hjn => by
          rw [hτ]; dsimp only; rw [if_neg hj, if_neg hjn]
        have e4 : ∀ j, τ' j < n → τ j < n := fun j hj => Classical.byContradiction fun hc => by
          by_cases c : j = k
          · rw [c, e1] at hj; omega
          · rw [e3 j c hc] at hj; omega
        have e5 : ∀ j, τ' j < n + 1 → j = k ∨ τ j < n := fun j hj => Classical.byContradiction fun hc => by
          rw [e3 j (fun h => hc (.inl h)) (fun h => hc (.inr h))] at hj
          omega
        refine ih τ' (n + 1) ?_ ?_ ?_ ?_
        · have h1 := sumN_lt (F := fun j => ind (¬ τ' j < n + 1)) (G := fun j => ind (¬ τ j < n)) (a := k) (n := P) (fun j hj => ind_imp fun h1 h2 => h1 (by rw [e2 j h2]; omega)) hk (by
            have h1 : ind (¬ τ' k < n + 1) = 0 := ind_no (by rw [e1]; omega)
            have h2 : ind (¬ τ k < n) = 1 := ind_yes hkn
            omega)
          omega
        · intro i j hi1 hj1 h1 h2 h3
          rcases e5 i h1 with c1 | c1 <;> rcases e5 j h2 with c2 | c2
          · rw [c1, c2]
          · rw [c1, e1, e2 j c2] at h3; omega
          · rw [c2, e1, e2 i c1] at h3; omega
          · rw [e2 i c1, e2 j c2] at h3
            exact hi i j hi1 hj1 c1 c2 h3
        · rw [e2 a ha]; omega
        · intro v hv hne h1
          rcases e5 v h1 with c1 | c1
          · subst c1
            have h2 : lowE P w τ' v = outS P w (fun j => !decide (τ j < n)) v := by
              unfold lowE outS
              refine sumN_congr fun o _ => ?_
              rw [e1]
              by_cases c : τ o < n
              · rw [if_pos (by rw [e2 o c]; exact c), if_neg (by simp [c])]
              · rw [if_neg (fun h => c (e4 o h)), if_pos (by simp [c])]
            rw [h2]; exact hkR
          · have h2 : lowE P w τ' v = lowE P w τ v := by
              unfold lowE
              refine sumN_congr fun o _ => ?_
              rw [e2 v c1]
              by_cases c : τ o < τ v
              · rw [if_pos c, if_pos (by rw [e2 o (by omega)]; exact c)]
              · rw [if_neg c, if_neg]
                intro h3
                have h4 := e4 o (by omega)
                rw [e2 o h4] at h3
                exact c h3
            rw [h2]; exact hb v hv hne c1
      · have hall : ∀ j, j < P → τ j < n := fun j hj => Classical.byContradiction fun hn => hx ⟨j, hj, hn⟩
        exact ⟨τ, fun i j a b => hi i j a b (hall i a) (hall j b), fun v hv hne => hb v hv hne (hall v hv)⟩
  refine key P (fun j => if j = a then 0 else 1) 1 ?_ ?_ ?_ ?_
  · have h1 := sumN_le (F := fun j => ind (¬ (if j = a then 0 else 1) < 1)) (G := fun _ => 1) (n := P) fun j _ => ind_le
    rw [Rt.sumN_const] at h1
    omega
  · intro i j _ _ h1 h2 _
    by_cases c1 : i = a
    · by_cases c2 : j = a
      · rw [c1, c2]
      · rw [if_neg c2] at h2; omega
    · rw [if_neg c1] at h1; omega
  · show (if a = a then 0 else 1) < 1
    rw [if_pos rfl]; omega
  · intro v _ hne h
    rw [if_neg hne] at h
    omega
/-- AN ORDER's DIVISOR IS LOST. -/
theorem nu_lost {P : Nat} {w : Nat → Nat → Nat} {τ : Nat → Nat} (h0 : 0 < P) : ¬ Win P w (nu P w τ) := by
  rintro ⟨E, ⟨σ, hs⟩, hE⟩
  obtain ⟨x, hx, hm⟩ := exists_max (σ := σ) h0
  have key : ∀ (n k : Nat), k < P → (∀ j, j < P → σ j ≤ σ k) → τ k ≤ n → ∃ v, v < P ∧ (∀ j, j < P → σ j ≤ σ v) ∧ ∀ u, u < P → (∀ j, j < P → σ j ≤ σ u) → τ v ≤ τ u := by
    intro n
    induction n with
    | zero => exact fun k hk hm h => ⟨k, hk, hm, fun u _ _ => by omega⟩
    | succ n ih =>
      intro k hk hm h
      by_cases c : ∃ u, u < P ∧ (∀ j, j < P → σ j ≤ σ u) ∧ τ u < τ k
      · obtain ⟨u, hu, hum, hut⟩ := c
        exact ih u hu hum (by omega)
      · exact ⟨k, hk, hm, fun u hu hum => Nat.le_of_not_lt fun h => c ⟨u, hu, hum, h⟩⟩
  obtain ⟨v, hv, hvm, hvt⟩ := key _ x hx hm (Nat.le_refl _)
  have h1 : (lowE P w τ v : Int) ≤ lap P w σ v := by
    unfold lowE lap
    rw [← sumZ_nat]
    refine sumZ_le fun o ho => ?_
    have hle := hvm o ho
    by_cases c : τ o < τ v
    · have hlt : σ o < σ v := by
        refine Classical.byContradiction fun hn => ?_
        have := hvt o ho fun j hj => by have := hvm j hj; omega
        omega
      rw [if_pos c]
      have h2 : (w v o : Int) * 1 ≤ (w v o : Int) * (σ v - σ o) := Int.mul_le_mul_of_nonneg_left (by omega) (Int.natCast_nonneg _)
      rw [Int.mul_one] at h2
      exact h2
    · rw [if_neg c]
      exact Int.mul_nonneg (Int.natCast_nonneg _) (by omega)
  have h2 := hs v hv
  have h3 := hE v hv
  unfold nu at h2
  omega
theorem low_high {P : Nat} {w : Nat → Nat → Nat} (hG : Gr P w) {τ : Nat → Nat} (hi : Inj P τ) {v : Nat} (hv : v < P) : lowE P w τ v + highE P w τ v = sumN (fun o => w v o) P := by
  unfold lowE highE
  rw [← sumN_add]
  refine sumN_congr fun o ho => ?_
  by_cases c1 : τ o < τ v
  · rw [if_pos c1, if_neg (by omega)]; rfl
  · by_cases c2 : τ v < τ o
    · rw [if_neg c1, if_pos c2, Nat.zero_add]
    · have e := hi o v ho hv (by omega)
      rw [if_neg c1, if_neg c2, e, hG.own]
theorem low_sum {P : Nat} {w : Nat → Nat → Nat} (hG : Gr P w) {τ : Nat → Nat} (hi : Inj P τ) : 2 * sumN (lowE P w τ) P = sumN (fun v => sumN (fun o => w v o) P) P := by
  have h1 : sumN (highE P w τ) P = sumN (lowE P w τ) P := by
    have e1 : sumN (highE P w τ) P = sumN (fun v => sumN (fun o => if τ v < τ o then w v o else 0) P) P := rfl
    rw [e1, sumN_swap (F := fun v o => if τ v < τ o then w v o else 0)]
    refine sumN_congr fun o _ => ?_
    show _ = sumN (fun v => if τ v < τ o then w o v else 0) P
    exact sumN_congr fun v _ => by rw [hG.sym]
  have h2 := sumN_add (F := lowE P w τ) (G := highE P w τ) (n := P)
  rw [sumN_congr (F := fun i => lowE P w τ i + highE P w τ i) (G := fun v => sumN (fun o => w v o) P) fun v hv => low_high hG hi hv] at h2
  omega
/-- The canonical divisor, and the edges' number. -/
def can (P : Nat) (w : Nat → Nat → Nat) (k : Nat) : Int := (sumN (fun o => w k o) P : Int) - 2
theorem sumZ_const {c : Int} : ∀ {n : Nat}, sumZ (fun _ => c) n = (n : Int) * c
  | 0 => by rw [Int.natCast_zero, Int.zero_mul]; rfl
  | n + 1 => by
    show sumZ (fun _ => c) n + c = _
    rw [sumZ_const, Int.natCast_add, Int.add_mul]
    omega
theorem nu_sum {P e : Nat} {w : Nat → Nat → Nat} (hG : Gr P w) (he : sumN (fun v => sumN (fun o => w v o) P) P = 2 * e) {τ : Nat → Nat} (hi : Inj P τ) : sumZ (nu P w τ) P = (e : Int) - P := by
  have h1 : sumZ (nu P w τ) P = sumZ (fun v => (lowE P w τ v : Int)) P - sumZ (fun _ => 1) P := sumZ_sub
  rw [h1, sumZ_nat, sumZ_const]
  have := low_sum hG hi
  omega
theorem can_sum {P e : Nat} {w : Nat → Nat → Nat} (he : sumN (fun v => sumN (fun o => w v o) P) P = 2 * e) : sumZ (can P w) P = 2 * (e : Int) - 2 * P := by
  have h1 : sumZ (can P w) P = sumZ (fun k => (sumN (fun o => w k o) P : Int)) P - sumZ (fun _ => 2) P := sumZ_sub
  rw [h1, sumZ_nat, sumZ_const, he]
  omega
theorem can_lost {P : Nat} {w : Nat → Nat → Nat} (hG : Gr P w) {τ : Nat → Nat} (hi : Inj P τ) (h0 : 0 < P) : ¬ Win P w (fun k => can P w k - nu P w τ k) := by
  intro h
  refine nu_lost (τ := fun j => sumN τ P - τ j) h0 (h.congr fun k hk => ?_)
  have h1 := low_high hG hi hk
  have h2 : lowE P w (fun j => sumN τ P - τ j) k = highE P w τ k := by
    unfold lowE highE
    refine sumN_congr fun o ho => ?_
    have a1 := sumN_one (F := τ) (a := k) (n := P) hk
    have a2 := sumN_one (F := τ) (a := o) (n := P) ho
    by_cases c : τ k < τ o
    · rw [if_pos c, if_pos (by dsimp only; omega)]
    · rw [if_neg c, if_neg (by dsimp only; omega)]
  unfold can nu
  rw [h2]
  omega
/-- So much taken from a divisor is won. -/
def Tk (P : Nat) (w : Nat → Nat → Nat) (D e : Nat → Int) : Prop := Win P w fun k => D k - e k
/-- The rank (and one more). -/
structure Rk (P : Nat) (w : Nat → Nat → Nat) (D : Nat → Int) (k : Nat) : Prop where
  less : ∀ j : Nat, j < k → AllW P (Tk P w D) (j : Int)
  lost : ¬ AllW P (Tk P w D) (k : Int)
theorem Rk.unique {P : Nat} {w : Nat → Nat → Nat} {D : Nat → Int} {k l : Nat} (h : Rk P w D k) (g : Rk P w D l) : k = l := by
  rcases Nat.lt_trichotomy k l with c | c | c
  · exact absurd (g.less k c) h.lost
  · exact c
  · exact absurd (h.less l c) g.lost
theorem Rk.ex {P : Nat} {w : Nat → Nat → Nat} {D : Nat → Int} {k : Nat} (h : Rk P w D k) : ∃ e, Eff P (k : Int) e ∧ ¬ Tk P w D e := by
  refine Classical.byContradiction fun hn => h.lost fun e he => Classical.byContradiction fun hc => hn ⟨e, he, hc⟩
theorem rr_le {P e : Nat} {w : Nat → Nat → Nat} (hG : Gr P w) (h0 : 0 < P) (he : sumN (fun v => sumN (fun o => w v o) P) P = 2 * e) {D D' : Nat → Int} (hD : ∀ k, k < P → D' k = can P w k - D k) {k l : Nat} (hk : Rk P w D k) (hl : Rk P w D' l) : (l : Int) ≤ (e : Int) - P - sumZ D P + k := by
  obtain ⟨E, hE, hlost⟩ := hk.ex
  obtain ⟨R, heq, hr⟩ := exists_reduced hG h0 (fun j => D j - E j)
  have hneg : ¬ 0 ≤ R 0 := fun h => hlost ((win_iff h0 heq hr).2 h)
  obtain ⟨τ, hi, hb⟩ := burn_order hr
  have hpos : ∀ j, j < P → 0 ≤ nu P w τ j - R j := fun j hj => by
    unfold nu
    by_cases c : j = 0
    · rw [c]
      have := Int.natCast_nonneg (lowE P w τ 0)
      omega
    · have := hb j hj c
      omega
  have hsum : sumZ (fun j => nu P w τ j - R j) P = (e : Int) - P - sumZ D P + k := by
    have h1 := heq.sum hG.sym
    rw [sumZ_sub, nu_sum hG he hi, h1, sumZ_sub, hE.sum]
    omega
  obtain ⟨n, hn⟩ := Int.eq_ofNat_of_zero_le (a := sumZ (fun j => nu P w τ j - R j) P) (sumZ_nonneg hpos)
  rw [hn] at hsum
  refine Int.not_lt.1 fun hlt => ?_
  have hw := hl.less n (by omega) (fun j => nu P w τ j - R j) ⟨hpos, hn⟩
  obtain ⟨F, ⟨ρ, hρ⟩, hF⟩ := hw
  obtain ⟨σ, hσ⟩ := heq
  refine can_lost hG hi h0 ⟨fun j => F j + E j, ⟨fun j => σ j + ρ j, fun j hj => ?_⟩, fun j hj => ?_⟩
  · have a1 := hρ j hj
    have a2 := hσ j hj
    have a3 := hD j hj
    rw [lap_add]
    dsimp only at a1 a2 ⊢
    omega
  · have a1 := hF j hj
    have a2 := hE.pos j hj
    show 0 ≤ F j + E j
    omega
/-- RIEMANN AND ROCH. -/
theorem rr {P e : Nat} {w : Nat → Nat → Nat} (hG : Gr P w) (h0 : 0 < P) (he : sumN (fun v => sumN (fun o => w v o) P) P = 2 * e) {D D' : Nat → Int} (hD : ∀ k, k < P → D' k = can P w k - D k) {k l : Nat} (hk : Rk P w D k) (hl : Rk P w D' l) : (k : Int) - l = sumZ D P - (e : Int) + P := by
  have h1 := rr_le hG h0 he hD hk hl
  have h2 := rr_le hG h0 he (D := D') (D' := D) (fun k hk => by have := hD k hk; omega) hl hk
  have h3 : sumZ D' P = sumZ (can P w) P - sumZ D P := by rw [sumZ_congr hD, sumZ_sub]
  rw [h3, can_sum he] at h2
  omega
theorem rk_zero {P : Nat} {w : Nat → Nat → Nat} (hG : Gr P w) (h0 : 0 < P) {D : Nat → Int} (hD : ∀ k, k < P → D k = 0) : Rk P w D 1 where
  less := fun j hj e he => by
    obtain rfl : j = 0 := by omega
    refine ⟨fun k => D k - e k, .refl, fun k hk => ?_⟩
    have h1 := sum_two he.pos (Nat.zero_le k) hk
    have h2 : sumZ e 0 = 0 := rfl
    have h3 := he.sum
    have h4 := hD k hk
    show 0 ≤ D k - e k
    omega
  lost := fun h => by
    have := won_small hG.sym (D := D) (by omega) h0 h
    rw [sumZ_congr hD, sumZ_zero] at this
    omega
theorem eff_split : ∀ {p : Nat} {e : Nat → Int} {a : Int}, (∀ k, k < p → 0 ≤ e k) → 0 ≤ a → a ≤ sumZ e p → ∃ g, (∀ k, k < p → 0 ≤ g k ∧ g k ≤ e k) ∧ sumZ g p = a
  | 0, e, a, _, h1, h2 => ⟨e, fun k hk => absurd hk (Nat.not_lt_zero _), by
      have : sumZ e 0 = 0 := rfl
      omega⟩
  | p + 1, e, a, hp, h1, h2 => by
    have h3 : sumZ e (p + 1) = sumZ e p + e p := rfl
    have h4 := hp p (by omega)
    by_cases c : a ≤ sumZ e p
    · obtain ⟨g, hg, hs⟩ := eff_split (p := p) (fun k hk => hp k (by omega)) h1 c
      refine ⟨upd g p 0, fun k hk => ?_, ?_⟩
      · by_cases c2 : k = p
        · rw [c2, upd_at]; omega
        · rw [upd_no c2]; exact hg k (by omega)
      · show sumZ (upd g p 0) p + upd g p 0 p = a
        rw [upd_at, sumZ_congr (F := upd g p 0) (G := g) fun k hk => upd_no (by omega), hs]
        omega
    · refine ⟨upd e p (a - sumZ e p), fun k hk => ?_, ?_⟩
      · by_cases c2 : k = p
        · rw [c2, upd_at]; omega
        · rw [upd_no c2]; exact ⟨hp k hk, Int.le_refl _⟩
      · show sumZ (upd e p (a - sumZ e p)) p + upd e p (a - sumZ e p) p = a
        rw [upd_at, sumZ_congr (F := upd e p (a - sumZ e p)) (G := e) fun k hk => upd_no (by omega)]
        omega
theorem rk_add {P : Nat} {w : Nat → Nat → Nat} {D D' D'' : Nat → Int} (hD : ∀ k, k < P → D'' k = D k + D' k) {k l m : Nat} (hk : Rk P w D k) (hl : Rk P w D' l) (hm : Rk P w D'' m) (hk1 : 1 ≤ k) (hl1 : 1 ≤ l) : k + l ≤ m + 1 := by
  refine Nat.le_of_not_lt fun hlt => ?_
  obtain ⟨E, hE, hlost⟩ := hm.ex
  obtain ⟨a, ha⟩ : ∃ a, a = min m (k - 1) := ⟨_, rfl⟩
  have ha1 : a ≤ m := by omega
  have ha2 : a < k := by omega
  have ha3 : m - a < l := by omega
  obtain ⟨g, hg, hs⟩ := eff_split (a := (a : Int)) hE.pos (by omega) (by rw [hE.sum]; omega)
  obtain ⟨F, ⟨σ, h1⟩, h2⟩ := hk.less a ha2 g ⟨fun k hk => (hg k hk).1, hs⟩
  obtain ⟨F', ⟨σ', h1'⟩, h2'⟩ := hl.less (m - a) ha3 (fun j => E j - g j) ⟨fun k hk => by have := hg k hk; omega, by rw [sumZ_sub, hE.sum, hs]; omega⟩
  refine hlost ⟨fun j => F j + F' j, ⟨fun j => σ j + σ' j, fun j hj => ?_⟩, fun j hj => ?_⟩
  · have a1 := h1 j hj
    have a2 := h1' j hj
    have a3 := hD j hj
    rw [lap_add]
    dsimp only at a1 a2 ⊢
    omega
  · have a1 := h2 j hj
    have a2 := h2' j hj
    show 0 ≤ F j + F' j
    omega
end Ch
end Go.Proofs.Ytjikildiblchpaa
