/- PLAIN (no program in sight): the document's filling of a graph, round by round, tells whether it hangs together. -/
import Derived.Test.YtjikildiblchpaaDoorGfPl
namespace Go.Proofs.YtjikildiblchpaaDoor
set_option linter.unusedSimpArgs false
set_option linter.unusedVariables false
namespace Rt

/-- One edge hands on what either end has. -/
def stepE (f : Nat → Nat → Int) (i : Nat) (g : Nat → Bool) (k : Nat) : Bool := g k || ((g (eA f i) || g (eB f i)) && (decide (k = eA f i) || decide (k = eB f i)))
def rndE (f : Nat → Nat → Int) : Nat → (Nat → Bool) → Nat → Bool
  | 0, g => g
  | i + 1, g => stepE f i (rndE f i g)
def fillE (f : Nat → Nat → Int) (m : Nat) : Nat → Nat → Bool
  | 0 => fun k => decide (k = 0)
  | n + 1 => rndE f m (fillE f m n)
theorem stepE_le {f : Nat → Nat → Int} {i k : Nat} {g : Nat → Bool} (h : g k = true) : stepE f i g k = true := by unfold stepE; rw [h]; rfl
theorem rndE_le {f : Nat → Nat → Int} {k : Nat} {g : Nat → Bool} (h : g k = true) : ∀ {i : Nat}, rndE f i g k = true
  | 0 => h
  | i + 1 => stepE_le (rndE_le h)
theorem rndE_mono {f : Nat → Nat → Int} {k i : Nat} {g : Nat → Bool} (h : rndE f i g k = true) : ∀ {d : Nat}, rndE f (i + d) g k = true
  | 0 => h
  | d + 1 => stepE_le (rndE_mono h)
theorem fillE_zero {f : Nat → Nat → Int} {m : Nat} : ∀ {n : Nat}, fillE f m n 0 = true
  | 0 => rfl
  | n + 1 => rndE_le fillE_zero
theorem stepE_reach {f : Nat → Nat → Int} {m i : Nat} {g : Nat → Bool} (hi : i < m) (h : ∀ k, g k = true → Reach f m k) : ∀ k, stepE f i g k = true → Reach f m k := fun k hk => by
  unfold stepE at hk
  rw [Bool.or_eq_true, Bool.and_eq_true, Bool.or_eq_true, Bool.or_eq_true, decide_eq_true_eq, decide_eq_true_eq] at hk
  rcases hk with hk | ⟨ha | hb, e | e⟩
  · exact h k hk
  · subst e; exact h _ ha
  · subst e; exact (h _ ha).step hi (.inl ⟨rfl, rfl⟩)
  · subst e; exact (h _ hb).step hi (.inr ⟨rfl, rfl⟩)
  · subst e; exact h _ hb
theorem rndE_reach {f : Nat → Nat → Int} {m : Nat} {g : Nat → Bool} (h : ∀ k, g k = true → Reach f m k) : ∀ {i : Nat}, i ≤ m → ∀ k, rndE f i g k = true → Reach f m k
  | 0, _ => h
  | i + 1, hi => stepE_reach (by omega) (rndE_reach h (by omega))
theorem fillE_reach {f : Nat → Nat → Int} {m : Nat} : ∀ {n : Nat} (k : Nat), fillE f m n k = true → Reach f m k
  | 0, k, hk => by
    have e : k = 0 := of_decide_eq_true hk
    subst e; exact reach_zero
  | n + 1, k, hk => rndE_reach fillE_reach (Nat.le_refl m) k hk
def ClosedE (f : Nat → Nat → Int) (m : Nat) (g : Nat → Bool) : Prop := ∀ i, i < m → g (eA f i) = g (eB f i)
theorem ClosedE.rnd {f : Nat → Nat → Int} {m : Nat} {g : Nat → Bool} (h : ClosedE f m g) : ∀ {i : Nat}, i ≤ m → rndE f i g = g
  | 0, _ => rfl
  | i + 1, hi => by
    show stepE f i (rndE f i g) = g
    rw [h.rnd (i := i) (by omega)]
    refine funext fun k => ?_
    have e := h i (by omega)
    unfold stepE
    by_cases h1 : k = eA f i
    · subst h1; rw [← e]; cases g (eA f i) <;> simp
    · by_cases h2 : k = eB f i
      · subst h2; rw [e]; cases g (eB f i) <;> simp
      · rw [decide_eq_false h1, decide_eq_false h2]; simp
theorem closedE_of {P m : Nat} {f : Nat → Nat → Int} {g : Nat → Bool} (hE : ∀ i, i < m → EdgeN P f i) (h : ∀ k, k < P → rndE f m g k = true → g k = true) : ClosedE f m g := fun i hi => by
  have hm : ∀ k, stepE f i (rndE f i g) k = true → rndE f m g k = true := fun k hk => by
    have h1 : rndE f (i + 1) g k = true := hk
    have h2 := rndE_mono (d := m - (i + 1)) h1
    rwa [show i + 1 + (m - (i + 1)) = m by omega] at h2
  have ha : g (eA f i) = true → g (eB f i) = true := fun x => by
    refine h _ (hE i hi).bl (hm _ ?_)
    unfold stepE; rw [rndE_le (i := i) x]; simp
  have hb : g (eB f i) = true → g (eA f i) = true := fun x => by
    refine h _ (hE i hi).al (hm _ ?_)
    unfold stepE; rw [rndE_le (i := i) x]; simp
  cases e1 : g (eA f i) <;> cases e2 : g (eB f i) <;> first | rfl | (have := ha e1; rw [e2] at this; cases this) | (have := hb e2; rw [e1] at this; cases this)
theorem fillE_grows {P m : Nat} {f : Nat → Nat → Int} (hE : ∀ i, i < m → EdgeN P f i) (hP : 1 ≤ P) : ∀ n, ClosedE f m (fillE f m n) ∨ n + 1 ≤ sumN (fun k => ind (fillE f m n k = true)) P
  | 0 => .inr (by
    have := sumN_one (F := fun k => ind (fillE f m 0 k = true)) (a := 0) (n := P) (by omega)
    have e : ind (fillE f m 0 0 = true) = 1 := ind_yes rfl
    rw [e] at this; omega)
  | n + 1 => by
    rcases fillE_grows hE hP n with h | h
    · exact .inl (by show ClosedE f m (rndE f m (fillE f m n)); rw [h.rnd (Nat.le_refl m)]; exact h)
    · by_cases hc : ∀ k, k < P → rndE f m (fillE f m n) k = true → fillE f m n k = true
      · have h2 := closedE_of hE hc
        exact .inl (by show ClosedE f m (rndE f m (fillE f m n)); rw [h2.rnd (Nat.le_refl m)]; exact h2)
      · obtain ⟨k, hk⟩ := Classical.not_forall.1 hc
        have hkP : k < P := Classical.byContradiction fun x => hk fun y => absurd y x
        have hk1 : rndE f m (fillE f m n) k = true := Classical.byContradiction fun x => hk fun _ y => absurd y x
        have hk2 : ¬ fillE f m n k = true := fun x => hk fun _ _ => x
        refine .inr ?_
        have hl : sumN (fun k => ind (fillE f m n k = true)) P < sumN (fun k => ind (fillE f m (n + 1) k = true)) P := by
          refine sumN_lt (a := k) (fun i _ => ind_imp fun x => rndE_le x) hkP ?_
          have e1 : ind (fillE f m n k = true) = 0 := ind_no hk2
          have e2 : ind (fillE f m (n + 1) k = true) = 1 := ind_yes hk1
          rw [e1, e2]; exact Nat.zero_lt_one
        omega
/-- After as many rounds as there are places: the graph hangs together if all are filled. -/
theorem fillE_all {P m : Nat} {f : Nat → Nat → Int} (hE : ∀ i, i < m → EdgeN P f i) (hP : 1 ≤ P) : ConnG P f m ↔ ∀ k, k < P → fillE f m P k = true := by
  have hc : ClosedE f m (fillE f m P) := by
    rcases fillE_grows hE hP P with h | h
    · exact h
    · have h2 : sumN (fun k => ind (fillE f m P k = true)) P ≤ sumN (fun _ => 1) P := sumN_le fun i _ => ind_le
      rw [sumN_const] at h2
      omega
  constructor
  · intro h k hk
    refine h k hk (fun x => fillE f m P x = true) fillE_zero ?_
    intro i a b hi hb ha
    rcases hb with ⟨e1, e2⟩ | ⟨e1, e2⟩
    · subst e1; subst e2; rw [← hc i hi]; exact ha
    · subst e1; subst e2; rw [hc i hi]; exact ha
  · intro h k hk
    exact fillE_reach k (h k hk)
end Rt
end Go.Proofs.YtjikildiblchpaaDoor
