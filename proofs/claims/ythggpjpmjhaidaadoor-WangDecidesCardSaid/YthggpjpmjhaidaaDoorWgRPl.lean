/- PLAIN (no program in sight): the reference's search back and forth: how long it may last, and what each step comes to. -/
import Derived.Test.YthggpjpmjhaidaaDoorWgPl2
namespace Go.Proofs.YthggpjpmjhaidaaDoor
set_option linter.unusedSimpArgs false
set_option linter.unusedVariables false
namespace Wg

def wsum (n all : Nat) : Nat → List Nat → Nat
  | _, [] => 0
  | j, x :: r => (n - x) * (n + 2) ^ (all - j) + wsum n all (j + 1) r
theorem wsum_snoc (n all : Nat) : ∀ (j : Nat) (cs : List Nat) (x : Nat), wsum n all j (cs ++ [x]) = wsum n all j cs + (n - x) * (n + 2) ^ (all - (j + cs.length))
  | j, [], x => by simp [wsum]
  | j, y :: r, x => by
    rw [List.cons_append, wsum, wsum, wsum_snoc n all (j + 1) r x, List.length_cons, show j + 1 + r.length = j + (r.length + 1) from by omega]
    omega
def mu (n all : Nat) (cs : List Nat) (i : Nat) : Nat := wsum n all 0 cs + (n + 1 - i) * (n + 2) ^ (all - cs.length)
theorem pw_pos (n a : Nat) : 0 < (n + 2) ^ a := Nat.pow_pos (by omega)
theorem mu_next {n all i : Nat} {cs : List Nat} (h : i ≤ n) : mu n all cs (i + 1) < mu n all cs i := by
  unfold mu
  have hp := pw_pos n (all - cs.length)
  have : (n + 1 - (i + 1)) * (n + 2) ^ (all - cs.length) < (n + 1 - i) * (n + 2) ^ (all - cs.length) := Nat.mul_lt_mul_of_pos_right (by omega) hp
  omega
theorem mu_pop {n all i x : Nat} {up : List Nat} (h : i ≤ n) (hx : x < n) : mu n all up (x + 1) < mu n all (up ++ [x]) i := by
  unfold mu
  rw [wsum_snoc, Nat.zero_add, show n + 1 - (x + 1) = n - x from by omega]
  have hp := pw_pos n (all - (up ++ [x]).length)
  have : 1 * (n + 2) ^ (all - (up ++ [x]).length) ≤ (n + 1 - i) * (n + 2) ^ (all - (up ++ [x]).length) := Nat.mul_le_mul_right _ (by omega)
  omega
theorem mu_push {n all i : Nat} {cs : List Nat} (h : i < n) (hl : cs.length < all) : mu n all (cs ++ [i]) 0 < mu n all cs i := by
  unfold mu
  rw [wsum_snoc, Nat.zero_add, List.length_append, List.length_singleton]
  obtain ⟨d, hd⟩ : ∃ d, all - cs.length = d + 1 := ⟨all - cs.length - 1, by omega⟩
  rw [hd, show all - (cs.length + 1) = d from by omega]
  have hp := pw_pos n d
  have e : (n + 2) ^ (d + 1) = (n + 2) * (n + 2) ^ d := by rw [Nat.pow_succ, Nat.mul_comm]
  have e2 : (n + 1 - i) * (n + 2) ^ (d + 1) = (n - i) * (n + 2) ^ (d + 1) + (n + 2) ^ (d + 1) := by
    rw [show n + 1 - i = (n - i) + 1 from by omega, Nat.add_mul, Nat.one_mul]
  rw [e2, e]
  have e3 : (n + 1 - 0) * (n + 2) ^ d < (n + 2) * (n + 2) ^ d := Nat.mul_lt_mul_of_pos_right (by omega) hp
  omega

/-- Where the search stands: the cells cs are laid, at the next place the numbers from i on are still to be tried. -/
structure Stand (T : Nat → Tl) (n W H : Nat) (ring : Bool) (cs : List Nat) (i : Nat) : Prop where
  len : cs.length < W * H
  le : i ≤ n
  bd : ∀ x ∈ cs, x < n
  fit : ∀ j, j < cs.length → FitW W ring (tl T cs) j ∧ FitF W H ring (tl T cs) j
  eq : fillS T n W H ring = back n (fun cs => Good W H ring (tl T cs)) (W * H) (cs.length + 1) cs i
theorem stand_start {T : Nat → Tl} {n W H : Nat} {ring : Bool} (h : 0 < W * H) : Stand T n W H ring [] 0 :=
  ⟨h, Nat.zero_le _, fun x hx => (by cases hx), fun j hj => absurd hj (Nat.not_lt_zero _), (back_all h).symm⟩
theorem Stand.pop {T : Nat → Tl} {n W H i x : Nat} {ring : Bool} {up : List Nat} (h : Stand T n W H ring (up ++ [x]) i) (hi : n ≤ i) : Stand T n W H ring up (x + 1) := by
  have hl := h.len
  rw [List.length_append, List.length_singleton] at hl
  refine ⟨by omega, h.bd x (by simp), fun y hy => h.bd y (by simp [hy]), fun j hj => ?_, ?_⟩
  · have := h.fit j (by simp; omega)
    have e : ∀ k, k ≤ j → tl T (up ++ [x]) k = tl T up k := fun k hk => tl_app (by omega)
    exact ⟨this.1.congr e, this.2.congr e⟩
  · rw [h.eq, List.length_append, List.length_singleton, back_end hi]
theorem Stand.over {T : Nat → Tl} {n W H i : Nat} {ring : Bool} (h : Stand T n W H ring [] i) (hi : n ≤ i) : fillS T n W H ring = none := by
  rw [h.eq]; exact back_last hi
theorem Stand.no {T : Nat → Tl} {n W H i : Nat} {ring : Bool} {cs : List Nat} (h : Stand T n W H ring cs i) (hi : i < n) (hno : ¬ (FitW W ring (tl T (cs ++ [i])) cs.length ∧ FitF W H ring (tl T (cs ++ [i])) cs.length)) : Stand T n W H ring cs (i + 1) := by
  refine ⟨h.len, hi, h.bd, h.fit, ?_⟩
  have hl := h.len
  obtain ⟨m, hm⟩ : ∃ m, W * H - cs.length - 1 = m := ⟨_, rfl⟩
  rw [h.eq]
  refine back_no hi ?_
  rw [hm]
  exact prune (by omega) hno
theorem Stand.push {T : Nat → Tl} {n W H i : Nat} {ring : Bool} {cs : List Nat} (h : Stand T n W H ring cs i) (hi : i < n) (hf : FitW W ring (tl T (cs ++ [i])) cs.length ∧ FitF W H ring (tl T (cs ++ [i])) cs.length) (hl : cs.length + 1 < W * H) : Stand T n W H ring (cs ++ [i]) 0 := by
  refine ⟨by simp; omega, Nat.zero_le _, fun x hx => ?_, fun j hj => ?_, ?_⟩
  · rcases List.mem_append.1 hx with hx | hx
    · exact h.bd x hx
    · rw [List.mem_singleton.1 hx]; exact hi
  · by_cases hjl : j = cs.length
    · subst hjl; exact hf
    · simp at hj
      have := h.fit j (by omega)
      have e : ∀ k, k ≤ j → tl T cs k = tl T (cs ++ [i]) k := fun k hk => (tl_app (by omega)).symm
      exact ⟨this.1.congr e, this.2.congr e⟩
  · rw [h.eq, back_down hi hl, List.length_append]; rfl
theorem Stand.yes {T : Nat → Tl} {n W H i : Nat} {ring : Bool} {cs : List Nat} (hW : 0 < W) (hH : 0 < H) (h : Stand T n W H ring cs i) (hi : i < n) (hf : FitW W ring (tl T (cs ++ [i])) cs.length ∧ FitF W H ring (tl T (cs ++ [i])) cs.length) (hl : cs.length + 1 = W * H) : fillS T n W H ring = some (cs ++ [i]) := by
  rw [h.eq]
  refine back_yes hi ?_
  rw [show W * H - cs.length - 1 = 0 from by omega]
  unfold ff
  have hall : ∀ k, k < W * H → FitW W ring (tl T (cs ++ [i])) k ∧ FitF W H ring (tl T (cs ++ [i])) k := fun k hk => by
    by_cases hkl : k = cs.length
    · subst hkl; exact hf
    · have := h.fit k (by omega)
      have e : ∀ j, j ≤ k → tl T cs j = tl T (cs ++ [i]) j := fun j hj => (tl_app (by omega)).symm
      exact ⟨this.1.congr e, this.2.congr e⟩
  rw [if_pos (fit_good hW hH (fun k hk => (hall k hk).1) (fun k hk => (hall k hk).2))]
theorem Stand.last {T : Nat → Tl} {n W H i : Nat} {ring : Bool} {cs : List Nat} (h : Stand T n W H ring cs i) : cs = [] ∨ ∃ up x, cs = up ++ [x] ∧ x < n := by
  rcases List.eq_nil_or_concat cs with hc | ⟨up, x, hc⟩
  · exact .inl hc
  · rw [List.concat_eq_append] at hc
    exact .inr ⟨up, x, hc, h.bd x (by rw [hc]; simp)⟩
end Wg
end Go.Proofs.YthggpjpmjhaidaaDoor
