/- PLAIN (no program in sight): divisors on a graph: sets that give; what is reduced is one alone of its class; giving ends. -/
import Derived.Test.YtjikildiblchpaaGfPl
namespace Go.Proofs.Ytjikildiblchpaa
set_option linter.unusedSimpArgs false
set_option linter.unusedVariables false
namespace Ch
open Rt (btw deg Btw eA eB eT EdgeN ConnG GOk sumN)

def sumZ (F : Nat → Int) : Nat → Int
  | 0 => 0
  | n + 1 => sumZ F n + F n
theorem sumZ_congr {F G : Nat → Int} : ∀ {n : Nat}, (∀ i, i < n → F i = G i) → sumZ F n = sumZ G n
  | 0, _ => rfl
  | n + 1, h => by
    show sumZ F n + F n = sumZ G n + G n
    rw [sumZ_congr fun i hi => h i (by omega), h n (by omega)]
theorem sumZ_add {F G : Nat → Int} : ∀ {n : Nat}, sumZ (fun i => F i + G i) n = sumZ F n + sumZ G n
  | 0 => rfl
  | n + 1 => by
    show sumZ (fun i => F i + G i) n + (F n + G n) = sumZ F n + F n + (sumZ G n + G n)
    rw [sumZ_add]; omega
theorem sumZ_sub {F G : Nat → Int} : ∀ {n : Nat}, sumZ (fun i => F i - G i) n = sumZ F n - sumZ G n
  | 0 => rfl
  | n + 1 => by
    show sumZ (fun i => F i - G i) n + (F n - G n) = sumZ F n + F n - (sumZ G n + G n)
    rw [sumZ_sub]; omega
theorem sumZ_mul {F : Nat → Int} {c : Int} : ∀ {n : Nat}, sumZ (fun i => c * F i) n = c * sumZ F n
  | 0 => by simp [sumZ]
  | n + 1 => by
    show sumZ (fun i => c * F i) n + c * F n = c * (sumZ F n + F n)
    rw [sumZ_mul, Int.mul_add]
theorem sumZ_zero : ∀ {n : Nat}, sumZ (fun _ => 0) n = 0
  | 0 => rfl
  | n + 1 => by show sumZ _ n + 0 = 0; rw [sumZ_zero]; rfl
theorem sumZ_le {F G : Nat → Int} : ∀ {n : Nat}, (∀ i, i < n → F i ≤ G i) → sumZ F n ≤ sumZ G n
  | 0, _ => Int.le_refl _
  | n + 1, h => Int.add_le_add (sumZ_le fun i hi => h i (by omega)) (h n (by omega))
theorem sumZ_nonneg {F : Nat → Int} {n : Nat} (h : ∀ i, i < n → 0 ≤ F i) : 0 ≤ sumZ F n := by
  have := sumZ_le (F := fun _ => 0) (G := F) (n := n) h
  rwa [sumZ_zero] at this
theorem sumZ_one {F : Nat → Int} {a : Nat} : ∀ {n : Nat}, (∀ i, i < n → 0 ≤ F i) → a < n → F a ≤ sumZ F n
  | 0, _, h => absurd h (Nat.not_lt_zero _)
  | n + 1, h0, h => by
    show F a ≤ sumZ F n + F n
    by_cases e : a = n
    · subst e
      have := sumZ_nonneg (F := F) (n := a) fun i hi => h0 i (by omega)
      omega
    · have := sumZ_one (F := F) (n := n) (a := a) (fun i hi => h0 i (by omega)) (by omega)
      have := h0 n (by omega)
      omega
theorem sumZ_swap {F : Nat → Nat → Int} {n : Nat} : ∀ {m : Nat}, sumZ (fun i => sumZ (fun k => F i k) m) n = sumZ (fun k => sumZ (fun i => F i k) n) m
  | 0 => sumZ_zero
  | m + 1 => by
    show sumZ (fun i => sumZ (fun k => F i k) m + F i m) n = sumZ (fun k => sumZ (fun i => F i k) n) m + sumZ (fun i => F i m) n
    rw [sumZ_add, sumZ_swap]
theorem sumZ_pick {a : Nat} {F : Nat → Int} : ∀ {n : Nat}, sumZ (fun k => if a = k then F k else 0) n = if a < n then F a else 0
  | 0 => rfl
  | n + 1 => by
    show sumZ (fun k => if a = k then F k else 0) n + (if a = n then F n else 0) = if a < n + 1 then F a else 0
    rw [sumZ_pick]
    by_cases h1 : a < n
    · rw [if_pos h1, if_neg (by omega), if_pos (by omega), Int.add_zero]
    · by_cases h2 : a = n
      · subst h2; rw [if_neg h1, if_pos rfl, if_pos (by omega)]; omega
      · rw [if_neg h1, if_neg h2, if_neg (by omega)]; rfl
theorem sumZ_nat {F : Nat → Nat} : ∀ {n : Nat}, sumZ (fun i => (F i : Int)) n = (sumN F n : Int)
  | 0 => rfl
  | n + 1 => by
    show sumZ (fun i => (F i : Int)) n + (F n : Int) = ((sumN F n + F n : Nat) : Int)
    rw [sumZ_nat, Int.natCast_add]
theorem sumZ_split {F : Nat → Int} {b : Nat → Bool} {n : Nat} : sumZ F n = sumZ (fun i => if b i then F i else 0) n + sumZ (fun i => if b i then 0 else F i) n := by
  rw [← sumZ_add]
  refine sumZ_congr fun i _ => ?_
  cases b i <;> simp

/-- A graph by how many edges two places have. -/
structure Gr (P : Nat) (w : Nat → Nat → Nat) : Prop where
  sym : ∀ a b, w a b = w b a
  own : ∀ a, w a a = 0
  conn : ∀ s, s < P → ∀ S : Nat → Prop, S s → (∀ a b, a < P → b < P → 0 < w a b → S a → S b) → ∀ k, k < P → S k
  few : ∀ k, k < P → sumN (fun o => w k o) P ≤ 4000
  p10 : P ≤ 10
/-- What giving takes from a place. -/
def lap (P : Nat) (w : Nat → Nat → Nat) (σ : Nat → Int) (k : Nat) : Int := sumZ (fun o => (w k o : Int) * (σ k - σ o)) P
theorem lap_add {P : Nat} {w : Nat → Nat → Nat} {σ τ : Nat → Int} {k : Nat} : lap P w (fun j => σ j + τ j) k = lap P w σ k + lap P w τ k := by
  unfold lap
  rw [← sumZ_add]
  refine sumZ_congr fun o _ => ?_
  rw [← Int.mul_add]
  congr 1
  dsimp only
  omega
theorem lap_neg {P : Nat} {w : Nat → Nat → Nat} {σ : Nat → Int} {k : Nat} : lap P w (fun j => - σ j) k = - lap P w σ k := by
  have h : lap P w (fun j => - σ j) k + lap P w σ k = 0 := by
    rw [← lap_add]
    unfold lap
    rw [sumZ_congr (G := fun _ => 0) fun o _ => ?_, sumZ_zero]
    rw [show (-σ k + σ k - (-σ o + σ o) : Int) = 0 from by omega, Int.mul_zero]
  omega
theorem lap_zero {P : Nat} {w : Nat → Nat → Nat} {k : Nat} : lap P w (fun _ => 0) k = 0 := by
  unfold lap
  rw [sumZ_congr (G := fun _ => 0) fun o _ => ?_, sumZ_zero]
  rw [Int.sub_self, Int.mul_zero]
/-- Two that fires lead from one to the other. -/
def Eqv (P : Nat) (w : Nat → Nat → Nat) (D E : Nat → Int) : Prop := ∃ σ : Nat → Int, ∀ k, k < P → E k = D k - lap P w σ k
theorem Eqv.refl {P : Nat} {w : Nat → Nat → Nat} {D : Nat → Int} : Eqv P w D D := ⟨fun _ => 0, fun k _ => by rw [lap_zero]; omega⟩
theorem Eqv.symm {P : Nat} {w : Nat → Nat → Nat} {D E : Nat → Int} (h : Eqv P w D E) : Eqv P w E D := by
  obtain ⟨σ, hs⟩ := h
  exact ⟨fun j => - σ j, fun k hk => by rw [lap_neg, hs k hk]; omega⟩
theorem Eqv.trans {P : Nat} {w : Nat → Nat → Nat} {D E F : Nat → Int} (h : Eqv P w D E) (g : Eqv P w E F) : Eqv P w D F := by
  obtain ⟨σ, hs⟩ := h
  obtain ⟨τ, ht⟩ := g
  exact ⟨fun j => σ j + τ j, fun k hk => by rw [lap_add, ht k hk, hs k hk]; omega⟩
theorem Eqv.of_eq {P : Nat} {w : Nat → Nat → Nat} {D E : Nat → Int} (h : ∀ k, k < P → D k = E k) : Eqv P w D E := ⟨fun _ => 0, fun k hk => by rw [lap_zero, h k hk]; omega⟩
/-- How much leads from a place out of a set. -/
def outS (P : Nat) (w : Nat → Nat → Nat) (S : Nat → Bool) (k : Nat) : Nat := sumN (fun o => if S o then 0 else w k o) P
/-- .. and into it. -/
def inS (P : Nat) (w : Nat → Nat → Nat) (S : Nat → Bool) (k : Nat) : Nat := sumN (fun o => if S o then w k o else 0) P
/-- A set gives, so many times. -/
def fireZ (P : Nat) (w : Nat → Nat → Nat) (D : Nat → Int) (S : Nat → Bool) (t : Int) (k : Nat) : Int := if S k then D k - t * (outS P w S k : Int) else D k + t * (inS P w S k : Int)
theorem fire_lap {P : Nat} {w : Nat → Nat → Nat} {D : Nat → Int} {S : Nat → Bool} {t : Int} {k : Nat} : fireZ P w D S t k = D k - lap P w (fun j => if S j then t else 0) k := by
  unfold fireZ lap outS inS
  dsimp only
  by_cases hk : S k = true
  · rw [if_pos hk, ← sumZ_nat, ← sumZ_mul]
    congr 1
    refine sumZ_congr fun o _ => ?_
    rw [if_pos hk]
    by_cases ho : S o = true
    · rw [if_pos ho, if_pos ho, Int.sub_self, Int.mul_zero]; simp
    · rw [if_neg ho, if_neg ho, Int.sub_zero, Int.mul_comm]
  · rw [if_neg hk, ← sumZ_nat, ← sumZ_mul]
    have e : sumZ (fun o => (w k o : Int) * ((if S k = true then t else 0) - if S o = true then t else 0)) P = - sumZ (fun o => t * ((if S o = true then w k o else 0 : Nat) : Int)) P := by
      have h : sumZ (fun o => (w k o : Int) * ((if S k = true then t else 0) - if S o = true then t else 0)) P + sumZ (fun o => t * ((if S o = true then w k o else 0 : Nat) : Int)) P = 0 := by
        rw [← sumZ_add, sumZ_congr (G := fun _ => 0) fun o _ => ?_, sumZ_zero]
        rw [if_neg hk]
        by_cases ho : S o = true
        · rw [if_pos ho, if_pos ho, Int.zero_sub, Int.mul_neg, Int.mul_comm]; omega
        · rw [if_neg ho, if_neg ho]; simp
      omega
    rw [e]; omega
theorem fire_eqv {P : Nat} {w : Nat → Nat → Nat} {D : Nat → Int} {S : Nat → Bool} {t : Int} : Eqv P w D (fireZ P w D S t) := ⟨_, fun _ _ => fire_lap⟩
/-- Nothing is lost. -/
theorem lap_sum {P : Nat} {w : Nat → Nat → Nat} (hs : ∀ a b, w a b = w b a) {σ : Nat → Int} : sumZ (lap P w σ) P = 0 := by
  have h1 : sumZ (lap P w σ) P = sumZ (fun k => sumZ (fun o => (w k o : Int) * σ k) P) P - sumZ (fun k => sumZ (fun o => (w k o : Int) * σ o) P) P := by
    rw [← sumZ_sub]
    refine sumZ_congr fun k _ => ?_
    unfold lap
    rw [← sumZ_sub]
    exact sumZ_congr fun o _ => Int.mul_sub _ _ _
  have h2 : sumZ (fun k => sumZ (fun o => (w k o : Int) * σ o) P) P = sumZ (fun k => sumZ (fun o => (w k o : Int) * σ k) P) P := by
    rw [sumZ_swap]
    exact sumZ_congr fun k _ => sumZ_congr fun o _ => by rw [hs]
  omega
theorem Eqv.sum {P : Nat} {w : Nat → Nat → Nat} (hs : ∀ a b, w a b = w b a) {D E : Nat → Int} (h : Eqv P w D E) : sumZ E P = sumZ D P := by
  obtain ⟨σ, he⟩ := h
  rw [sumZ_congr he, sumZ_sub, lap_sum hs]; omega
/-- A set that can give: it holds not the place, none of it comes into debt. -/
structure Legal (P : Nat) (w : Nat → Nat → Nat) (D : Nat → Int) (a : Nat) (S : Nat → Bool) : Prop where
  no : S a = false
  can : ∀ k, k < P → S k = true → (outS P w S k : Int) ≤ D k
structure Reduced (P : Nat) (w : Nat → Nat → Nat) (D : Nat → Int) (a : Nat) : Prop where
  pos : ∀ k, k < P → k ≠ a → 0 ≤ D k
  none : ∀ S, Legal P w D a S → ∀ k, k < P → S k = false
theorem exists_max {σ : Nat → Int} : ∀ {P : Nat}, 0 < P → ∃ k, k < P ∧ ∀ j, j < P → σ j ≤ σ k
  | 0, h => absurd h (Nat.lt_irrefl _)
  | 1, _ => ⟨0, by omega, fun j hj => by obtain rfl : j = 0 := by omega
                                         exact Int.le_refl _⟩
  | n + 2, _ => by
    obtain ⟨k, hk, h⟩ := exists_max (σ := σ) (P := n + 1) (by omega)
    by_cases e : σ k ≤ σ (n + 1)
    · refine ⟨n + 1, by omega, fun j hj => ?_⟩
      by_cases ej : j = n + 1
      · subst ej; exact Int.le_refl _
      · exact Int.le_trans (h j (by omega)) e
    · refine ⟨k, by omega, fun j hj => ?_⟩
      by_cases ej : j = n + 1
      · subst ej; omega
      · exact h j (by omega)
/-- One that is reduced is not left by giving most elsewhere. -/
theorem Reduced.most {P : Nat} {w : Nat → Nat → Nat} {D E : Nat → Int} {a : Nat} {σ : Nat → Int} (h : Reduced P w D a) (hE : ∀ k, k < P → k ≠ a → 0 ≤ E k) (hs : ∀ k, k < P → E k = D k - lap P w σ k) (ha : a < P) : ∀ j, j < P → σ j ≤ σ a := by
  obtain ⟨x, hx, hm⟩ := exists_max (σ := σ) (show 0 < P by omega)
  refine Classical.byContradiction fun hn => ?_
  have hlt : σ a < σ x := by
    refine Classical.byContradiction fun h2 => hn fun j hj => ?_
    have := hm j hj
    omega
  have hS : Legal P w D a (fun k => decide (σ k = σ x)) := ⟨decide_eq_false (by omega), fun k hk hkx => by
    have hkx : σ k = σ x := of_decide_eq_true hkx
    have h0 := hE k hk (fun e => by rw [e] at hkx; omega)
    rw [hs k hk] at h0
    have h1 : (outS P w (fun k => decide (σ k = σ x)) k : Int) ≤ lap P w σ k := by
      unfold outS lap
      rw [← sumZ_nat]
      refine sumZ_le fun o ho => ?_
      have := hm o ho
      by_cases e : σ o = σ x
      · rw [if_pos (decide_eq_true e), hkx, e, Int.sub_self, Int.mul_zero]
        exact Int.le_refl _
      · rw [if_neg (by simpa using e)]
        have h2 : (w k o : Int) * 1 ≤ (w k o : Int) * (σ k - σ o) := Int.mul_le_mul_of_nonneg_left (by omega) (Int.natCast_nonneg _)
        rw [Int.mul_one] at h2
        exact h2
    omega⟩
  have h3 := h.none _ hS x hx
  simp at h3
/-- WHAT IS REDUCED IS ONE ALONE OF ITS CLASS. -/
theorem Reduced.unique {P : Nat} {w : Nat → Nat → Nat} {D E : Nat → Int} {a : Nat} (hD : Reduced P w D a) (hE : Reduced P w E a) (h : Eqv P w D E) (ha : a < P) : ∀ k, k < P → D k = E k := fun k hk => by
  obtain ⟨σ, hs⟩ := h
  have h1 := hD.most hE.pos hs ha
  have h2 := hE.most (σ := fun j => - σ j) hD.pos (fun k hk => by rw [lap_neg, hs k hk]; omega) ha
  have h3 : ∀ j, j < P → σ j = σ a := fun j hj => by
    have := h1 j hj
    have := h2 j hj
    omega
  rw [hs k hk]
  have h4 : lap P w σ k = 0 := by
    unfold lap
    rw [sumZ_congr (G := fun _ => 0) fun o ho => ?_, sumZ_zero]
    rw [h3 k hk, h3 o ho, Int.sub_self, Int.mul_zero]
  omega
/-- GIVING ENDS: sets without the place give, none but the place is in debt: they give no more often than so. -/
structure Run (P : Nat) (w : Nat → Nat → Nat) (D : Nat → Int) (a : Nat) (σ : Nat → Int) : Prop where
  at0 : σ a = 0
  pos : ∀ k, k < P → 0 ≤ σ k
  left : ∀ k, k < P → k ≠ a → 0 ≤ D k - lap P w σ k
theorem bound_all {Q : (Nat → Int) → Prop} : ∀ {P : Nat}, (∀ k, k < P → ∃ c : Int, ∀ σ, Q σ → σ k ≤ c) → ∃ b : Int, ∀ σ, Q σ → sumZ σ P ≤ b
  | 0, _ => ⟨0, fun _ _ => Int.le_refl _⟩
  | n + 1, h => by
    obtain ⟨b, hb⟩ := bound_all (P := n) fun k hk => h k (by omega)
    obtain ⟨c, hc⟩ := h n (by omega)
    exact ⟨b + c, fun σ hq => Int.add_le_add (hb σ hq) (hc σ hq)⟩
theorem Run.most {P : Nat} {w : Nat → Nat → Nat} (hG : Gr P w) {D : Nat → Int} {a : Nat} {σ : Nat → Int} (h : Run P w D a σ) (ha : a < P) {k : Nat} (hk : k < P) : D a ≤ D a - lap P w σ a ∧ D k - lap P w σ k ≤ (sumZ D P - D a) + (if k = a then D a else 0) := by
  have h1 : lap P w σ a ≤ 0 := by
    have : lap P w σ a ≤ sumZ (fun _ => 0) P := by
      unfold lap
      refine sumZ_le fun o ho => ?_
      rw [h.at0, Int.zero_sub]
      have := Int.mul_nonneg (Int.natCast_nonneg (w a o)) (h.pos o ho)
      rw [Int.mul_neg]
      omega
    rwa [sumZ_zero] at this
  refine ⟨by omega, ?_⟩
  have h2 : sumZ (fun k => D k - lap P w σ k) P = sumZ D P := by
    rw [sumZ_sub, lap_sum hG.sym]; omega
  by_cases e : k = a
  · subst e
    rw [if_pos rfl]
    have h3 := sumZ_one (F := fun j => if k = j then D j - lap P w σ j else 0) (n := P) (a := k)
    have h4 : sumZ (fun j => D j - lap P w σ j) P = sumZ (fun j => if k = j then D j - lap P w σ j else 0) P + sumZ (fun j => if k = j then 0 else D j - lap P w σ j) P := by
      rw [← sumZ_add]
      refine sumZ_congr fun j _ => ?_
      by_cases e : k = j
      · rw [if_pos e, if_pos e]; omega
      · rw [if_neg e, if_neg e]; omega
    have h5 : sumZ (fun j => if k = j then D j - lap P w σ j else 0) P = D k - lap P w σ k := by
      rw [sumZ_pick (F := fun j => D j - lap P w σ j), if_pos hk]
    have h6 : 0 ≤ sumZ (fun j => if k = j then 0 else D j - lap P w σ j) P := sumZ_nonneg fun j hj => by
      by_cases e : k = j
      · rw [if_pos e]; exact Int.le_refl _
      · rw [if_neg e]; exact h.left j hj (Ne.symm e)
    omega
  · rw [if_neg e]
    have h4 : sumZ (fun j => D j - lap P w σ j) P = sumZ (fun j => if a = j then D j - lap P w σ j else 0) P + sumZ (fun j => if a = j then 0 else D j - lap P w σ j) P := by
      rw [← sumZ_add]
      refine sumZ_congr fun j _ => ?_
      by_cases e : a = j
      · rw [if_pos e, if_pos e]; omega
      · rw [if_neg e, if_neg e]; omega
    have h5 : sumZ (fun j => if a = j then D j - lap P w σ j else 0) P = D a - lap P w σ a := by
      rw [sumZ_pick (F := fun j => D j - lap P w σ j), if_pos ha]
    have h6 := sumZ_one (F := fun j => if a = j then 0 else D j - lap P w σ j) (n := P) (a := k) (fun j hj => by
      show 0 ≤ if a = j then 0 else D j - lap P w σ j
      by_cases e : a = j
      · rw [if_pos e]; exact Int.le_refl _
      · rw [if_neg e]; exact h.left j hj (Ne.symm e)) hk
    have h7 : (if a = k then 0 else D k - lap P w σ k) = D k - lap P w σ k := if_neg (Ne.symm e)
    have h6 : D k - lap P w σ k ≤ sumZ (fun j => if a = j then 0 else D j - lap P w σ j) P := by
      rw [← h7]; exact h6
    omega
theorem Run.ends {P : Nat} {w : Nat → Nat → Nat} (hG : Gr P w) (D : Nat → Int) {a : Nat} (ha : a < P) : ∃ b : Int, ∀ σ, Run P w D a σ → sumZ σ P ≤ b := by
  refine bound_all ?_
  refine hG.conn a ha (fun k => ∃ c : Int, ∀ σ, Run P w D a σ → σ k ≤ c) ⟨0, fun σ h => by rw [h.at0]; exact Int.le_refl _⟩ ?_
  rintro b o hb ho hw ⟨c, hc⟩
  refine ⟨(sumZ D P - D a) + (if b = a then D a else 0) - D b + (sumN (fun o => w b o) P : Int) * c, fun σ h => ?_⟩
  have h1 := (h.most hG ha hb).2
  have h2 := hc σ h
  have h0 := h.pos b hb
  have h3 : lap P w σ b = (sumN (fun o => w b o) P : Int) * σ b - sumZ (fun o => (w b o : Int) * σ o) P := by
    unfold lap
    rw [← sumZ_nat, Int.mul_comm, ← sumZ_mul, ← sumZ_sub]
    refine sumZ_congr fun o _ => ?_
    rw [Int.mul_sub, Int.mul_comm]
  have h4 : (w b o : Int) * σ o ≤ sumZ (fun o => (w b o : Int) * σ o) P := sumZ_one (F := fun o => (w b o : Int) * σ o) (fun i hi => Int.mul_nonneg (Int.natCast_nonneg _) (h.pos i hi)) ho
  have h5 : 1 * σ o ≤ (w b o : Int) * σ o := Int.mul_le_mul_of_nonneg_right (by omega) (h.pos o ho)
  have h6 : (sumN (fun o => w b o) P : Int) * σ b ≤ (sumN (fun o => w b o) P : Int) * c := Int.mul_le_mul_of_nonneg_left h2 (Int.natCast_nonneg _)
  rw [Int.one_mul] at h5
  rw [h3] at h1
  omega
end Ch
end Go.Proofs.Ytjikildiblchpaa
