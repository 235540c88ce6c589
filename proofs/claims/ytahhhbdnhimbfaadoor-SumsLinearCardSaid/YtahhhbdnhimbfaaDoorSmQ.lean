/- PLAIN: heights that are found by a search are heights, where there are any; no program in sight. -/
import Derived.Test.YtahhhbdnhimbfaaDoorSmP
namespace Go.Proofs.YtahhhbdnhimbfaaDoor
set_option linter.unusedSimpArgs false
set_option linter.unusedVariables false
open Go.RowKit
namespace Ln
namespace Sm

/-- How many of the first n places are known. -/
def cntB (Kn : Nat → Bool) : Nat → Nat
  | 0 => 0
  | n + 1 => cntB Kn n + if Kn n = true then 1 else 0
theorem cntB_le {Kn : Nat → Bool} : ∀ n, cntB Kn n ≤ n
  | 0 => Nat.le_refl _
  | n + 1 => by
    have := cntB_le (Kn := Kn) n
    show cntB Kn n + _ ≤ _
    split <;> omega
def setB (Kn : Nat → Bool) (p q : Nat) : Bool := if q = p then true else Kn q
def setH (H : Nat → Int) (p : Nat) (v : Int) (q : Nat) : Int := if q = p then v else H q
theorem cntB_set {Kn : Nat → Bool} {p : Nat} (h : Kn p = false) : ∀ n, cntB (setB Kn p) n = cntB Kn n + if p < n then 1 else 0
  | 0 => by simp [cntB]
  | n + 1 => by
    have ih := cntB_set h n
    show cntB (setB Kn p) n + _ = cntB Kn n + _ + _
    rw [ih]
    unfold setB
    rcases Nat.lt_trichotomy p n with h1 | h1 | h1
    · rw [if_pos h1, if_pos (show p < n + 1 by omega), if_neg (show ¬ n = p by omega)]; omega
    · subst h1
      rw [if_neg (Nat.lt_irrefl _), if_pos (show p < p + 1 by omega), if_pos rfl, if_pos rfl, h]
      simp
    · rw [if_neg (by omega), if_neg (show ¬ p < n + 1 by omega), if_neg (show ¬ n = p by omega), Nat.add_zero, Nat.add_zero]
/-- The search's state: places found, known ones, heights. -/
structure Srch (W : Nat → Int) (t : Nat → Nat) (st m M : Nat) (L : List Nat) (Kn : Nat → Bool) (H : Nat → Int) : Prop where
  lt : ∀ k, k < L.length → L.getD k 0 < M
  known : ∀ k, k < L.length → Kn (L.getD k 0) = true
  cnt : L.length = cntB Kn M
  mem : ∀ p, p < M → Kn p = true → ∃ k, k < L.length ∧ L.getD k 0 = p
  zero : Kn 0 = true
  hi : ∀ p, -(2000 * (L.length : Int)) ≤ H p ∧ H p ≤ 2000 * (L.length : Int)
  pot : ∀ h, Pot W t st m h → ∀ p, p < M → Kn p = true → H p = h p - h 0
theorem Srch.le {W : Nat → Int} {t : Nat → Nat} {st m M : Nat} {L : List Nat} {Kn : Nat → Bool} {H : Nat → Int} (s : Srch W t st m M L Kn H) : L.length ≤ M := by rw [s.cnt]; exact cntB_le _
theorem Srch.start {W : Nat → Int} {t : Nat → Nat} {st m M : Nat} (hM : 0 < M) : Srch W t st m M [0] (setB (fun _ => false) 0) (fun _ => 0) where
  lt k hk := by
    obtain rfl : k = 0 := by simpa using hk
    exact hM
  known k hk := by
    obtain rfl : k = 0 := by simpa using hk
    rfl
  cnt := by
    rw [cntB_set rfl, if_pos hM, show cntB (fun _ => false) M = 0 from by
      clear hM
      induction M with
      | zero => rfl
      | succ n ih => show cntB _ n + _ = 0; rw [ih]; rfl]
    rfl
  mem p hp h := by
    refine ⟨0, by simp, ?_⟩
    unfold setB at h
    by_cases e : p = 0
    · exact e.symm
    · rw [if_neg e] at h; cases h
  zero := rfl
  hi p := by simp
  pot h hp p hM hk := by
    unfold setB at hk
    by_cases e : p = 0
    · subst e; omega
    · rw [if_neg e] at hk; cases hk
theorem getD_snoc {α : Type} {L : List α} {x d : α} {k : Nat} : (L ++ [x]).getD k d = if k < L.length then L.getD k d else if k = L.length then x else d := by
  rw [List.getD_eq_getElem?_getD, List.getD_eq_getElem?_getD]
  split
  · rename_i h; rw [List.getElem?_append_left h]
  · rename_i h
    rw [List.getElem?_append_right (by omega)]
    split
    · rename_i e; rw [e, Nat.sub_self]; rfl
    · rename_i e
      rw [List.getElem?_eq_none (by simp; omega)]; rfl
theorem Srch.step {W : Nat → Int} {t : Nat → Nat} {st m M : Nat} {L : List Nat} {Kn : Nat → Bool} {H : Nat → Int} (s : Srch W t st m M L Kn H) (hMm : M = st ^ m) (hW : ∀ k, -1000 ≤ W k ∧ W k ≤ 1000) {i c : Nat} (hi : i < L.length) (hc : c < st) {g : Nat} (hg : g = (L.getD i 0 * st + c) % M) (hk : Kn g = false) :
    Srch W t st m M (L ++ [g]) (setB Kn g) (setH H g (H (L.getD i 0) + W (t (L.getD i 0 * st + c)) - W c)) := by
  have hM : 0 < M := Nat.lt_of_le_of_lt (Nat.zero_le _) (s.lt i hi)
  have hgM : g < M := by rw [hg]; exact Nat.mod_lt _ hM
  have hlen : (L ++ [g]).length = L.length + 1 := by simp
  refine ⟨fun k hk' => ?_, fun k hk' => ?_, ?_, fun p hp h => ?_, ?_, fun p => ?_, fun h hp p hpM hkn => ?_⟩
  · rw [getD_snoc]
    split
    · rename_i h; exact s.lt k h
    · split
      · exact hgM
      · exact hM
  · rw [hlen] at hk'
    rw [getD_snoc]
    split
    · rename_i h
      unfold setB
      split
      · rfl
      · exact s.known k h
    · rw [if_pos (by omega)]
      unfold setB
      rw [if_pos rfl]
  · rw [hlen, cntB_set hk, if_pos hgM, s.cnt]
  · by_cases e : p = g
    · exact ⟨L.length, by rw [hlen]; omega, by rw [getD_snoc, if_neg (by omega), if_pos rfl, e]⟩
    · unfold setB at h
      rw [if_neg e] at h
      obtain ⟨k, h1, h2⟩ := s.mem p hp h
      exact ⟨k, by rw [hlen]; omega, by rw [getD_snoc, if_pos h1, h2]⟩
  · unfold setB
    split
    · rfl
    · exact s.zero
  · rw [hlen]
    unfold setH
    have h1 := s.hi p
    have h2 := s.hi (L.getD i 0)
    have h3 := hW (t (L.getD i 0 * st + c))
    have h4 := hW c
    split <;> (constructor <;> (push_cast; omega))
  · unfold setB at hkn
    unfold setH
    by_cases e : p = g
    · rw [if_pos e]
      have h1 := s.pot h hp _ (s.lt i hi) (s.known i hi)
      have h2 := hp (L.getD i 0) c (by rw [← hMm]; exact s.lt i hi) hc
      rw [← hMm, ← hg, ← e] at h2
      omega
    · rw [if_neg e] at hkn ⊢
      exact s.pot h hp p hpM hkn
theorem Srch.all {W : Nat → Int} {t : Nat → Nat} {st m M : Nat} {L : List Nat} {Kn : Nat → Bool} {H : Nat → Int} (s : Srch W t st m M L Kn H) (hst : 0 < st) (hMm : M = st ^ m) (hcl : ∀ k, k < L.length → ∀ c, c < st → Kn ((L.getD k 0 * st + c) % M) = true) (p : Nat) (hp : p < M) : Kn p = true := by
  have hj : ∀ j, j ≤ m → Kn (p / st ^ (m - j)) = true := by
    intro j
    induction j with
    | zero =>
      intro _
      rw [Nat.sub_zero, ← hMm, Nat.div_eq_of_lt hp]
      exact s.zero
    | succ j ih =>
      intro hj
      have h1 := ih (by omega)
      obtain ⟨k, hk1, hk2⟩ := s.mem _ (Nat.lt_of_le_of_lt (Nat.div_le_self _ _) hp) h1
      have h2 := hcl k hk1 (p / st ^ (m - (j + 1)) % st) (Nat.mod_lt _ hst)
      have h3 : p / st ^ (m - j) = p / st ^ (m - (j + 1)) / st := by
        rw [Nat.div_div_eq_div_mul, ← Nat.pow_succ]; congr 2; omega
      rw [hk2, h3, Nat.div_add_mod', Nat.mod_eq_of_lt (Nat.lt_of_le_of_lt (Nat.div_le_self _ _) hp)] at h2
      exact h2
  have h := hj m (Nat.le_refl _)
  rw [Nat.sub_self, Nat.pow_zero, Nat.div_one] at h
  exact h
theorem Srch.says {W : Nat → Int} {t : Nat → Nat} {st m M : Nat} {L : List Nat} {Kn : Nat → Bool} {H : Nat → Int} (s : Srch W t st m M L Kn H) (hst : 0 < st) (hMm : M = st ^ m) (hcl : ∀ k, k < L.length → ∀ c, c < st → Kn ((L.getD k 0 * st + c) % M) = true) :
    Pot W t st m H ↔ KeptW W t st (m + 1) := by
  refine ⟨kept_of_pot hst, fun hk p c hp hc => ?_⟩
  have hP := pot_of_kept hst hk
  have hM : 0 < M := by rw [hMm]; exact Nat.pow_pos hst
  rw [← hMm] at hp ⊢
  have h1 := s.pot _ hP _ (Nat.mod_lt (p * st + c) hM) (s.all hst hMm hcl _ (Nat.mod_lt _ hM))
  have h2 := s.pot _ hP p hp (s.all hst hMm hcl p hp)
  have h3 := hP p c (by rw [← hMm]; exact hp) hc
  rw [← hMm] at h3
  omega
end Sm
end Ln
end Go.Proofs.YtahhhbdnhimbfaaDoor
