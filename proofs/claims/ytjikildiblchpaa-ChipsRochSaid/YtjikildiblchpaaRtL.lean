/- PLAIN: what a row of steps from one place makes of all chips. -/
import Derived.Test.YtjikildiblchpaaGfPl
namespace Go.Proofs.Ytjikildiblchpaa
set_option linter.unusedSimpArgs false
set_option linter.unusedVariables false
namespace Rt

theorem ch_most {B : Bd} (hB : B.Ok) {sg c u : Nat → Nat} (h : Leg B sg c u) {p : Nat} (hp : p < B.P) : chU B sg c u p ≤ sumN c B.P := by
  unfold chU
  split
  · exact Nat.zero_le _
  · have := h.most hB hp
    omega
theorem ch_leg {B : Bd} (hB : B.Ok) {sg c u : Nat → Nat} (h : Leg B sg c u) {k t : Nat} (hk : k < B.P) (hs : k ≠ B.sink) (ht : t ≤ chU B sg c u k) : Leg B sg c (bump u k t) := by
  refine h.batch hB hk hs t ?_
  unfold chU at ht
  rw [if_neg hs] at ht
  have := h.nonneg k
  omega
/-- Chips, when a row of steps begins. -/
def ch0 (B : Bd) (sg c u : Nat → Nat) (k t p : Nat) : Nat := if p = k then chU B sg c u k - t else chU B sg c u p
/-- Chips on the way: so many of the place's ways are through. -/
def chI (B : Bd) (sg c u : Nat → Nat) (k t i p : Nat) : Nat := ch0 B sg c u k t p + if p = B.sink then 0 else sumN (fun j => if B.way k j = p then often (B.d k) (sgU B sg u k) j t else 0) i
theorem sumN_mono {F : Nat → Nat} {a b : Nat} (h : a ≤ b) : sumN F a ≤ sumN F b := by
  obtain ⟨d, rfl⟩ : ∃ d, b = a + d := ⟨b - a, by omega⟩
  rw [sumN_split]; omega
theorem chI_zero {B : Bd} {sg c u : Nat → Nat} {k t p : Nat} : chI B sg c u k t 0 p = ch0 B sg c u k t p := by
  unfold chI
  show _ + (if p = B.sink then 0 else 0) = _
  split <;> rfl
theorem chI_next {B : Bd} {sg c u : Nat → Nat} {k t i p : Nat} : chI B sg c u k t (i + 1) p = chI B sg c u k t i p + if B.way k i = p ∧ p ≠ B.sink then often (B.d k) (sgU B sg u k) i t else 0 := by
  unfold chI
  by_cases hp : p = B.sink
  · rw [if_pos hp, if_pos hp, if_neg (fun h => h.2 hp)]
  · rw [if_neg hp, if_neg hp]
    show _ + (sumN _ i + if B.way k i = p then _ else 0) = _
    by_cases hw : B.way k i = p
    · rw [if_pos hw, if_pos ⟨hw, hp⟩, Nat.add_assoc]
    · rw [if_neg hw, if_neg (fun h => hw h.1)]; rfl
theorem chI_all {B : Bd} (hB : B.Ok) {sg c u : Nat → Nat} (h : Leg B sg c u) {k t : Nat} (hk : k < B.P) (hs : k ≠ B.sink) (ht : t ≤ chU B sg c u k) {p : Nat} (hp : p < B.P) : chI B sg c u k t (B.d k) p = chU B sg c (bump u k t) p := by
  have hd := hB.pos k hk hs
  have hzero : p = k → sumN (fun j => if B.way k j = p then often (B.d k) (sgU B sg u k) j t else 0) (B.d k) = 0 := fun e => by
    rw [sumN_congr (G := fun _ => 0) fun j hj => if_neg (fun hw => (hB.way k hk j hj).2 (hw.trans e)), sumN_zero]
  unfold chI ch0
  by_cases hps : p = B.sink
  · rw [if_pos hps, Nat.add_zero, if_neg (fun e => hs (e.symm.trans hps))]
    unfold chU
    rw [if_pos hps, if_pos hps]
  · rw [if_neg hps]
    by_cases hpk : p = k
    · rw [if_pos hpk, hzero hpk, Nat.add_zero, hpk]
      unfold chU
      rw [if_neg hs, if_neg hs, inb_own hB hk hd, bump_at]
      omega
    · rw [if_neg hpk]
      unfold chU
      rw [if_neg hps, if_neg hps, bump_no hpk]
      have h0 := h.nonneg p
      have e : inb B sg c (bump u k t) p = inb B sg c u p + sumN (fun j => if B.way k j = p then often (B.d k) (sgU B sg u k) j t else 0) (B.d k) := by
        unfold inb
        have e1 : sumN (fun j => arr B sg j p (bump u k t j)) B.P = sumN (fun j => arr B sg j p (u j) + if k = j then sumN (fun i => if B.way k i = p then often (B.d k) (sgU B sg u k) i t else 0) (B.d k) else 0) B.P := sumN_congr fun j hj => by
          by_cases e : k = j
          · subst e
            rw [bump_at, if_pos rfl, arr_run hd]
            rfl
          · rw [bump_no (Ne.symm e), if_neg e, Nat.add_zero]
        rw [e1, sumN_add]
        have e2 := sumN_pickF (a := k) (F := fun _ => sumN (fun i => if B.way k i = p then often (B.d k) (sgU B sg u k) i t else 0) (B.d k)) (n := B.P)
        rw [if_pos hk] at e2
        rw [e2]
        omega
      rw [e]
      omega
theorem chI_le {B : Bd} (hB : B.Ok) {sg c u : Nat → Nat} (h : Leg B sg c u) {k t : Nat} (hk : k < B.P) (hs : k ≠ B.sink) (ht : t ≤ chU B sg c u k) {p i : Nat} (hp : p < B.P) (hi : i ≤ B.d k) : chI B sg c u k t i p ≤ sumN c B.P := by
  have h1 : chI B sg c u k t i p ≤ chI B sg c u k t (B.d k) p := by
    unfold chI
    split
    · exact Nat.le_refl _
    · exact Nat.add_le_add_left (sumN_mono hi) _
  rw [chI_all hB h hk hs ht hp] at h1
  exact Nat.le_trans h1 (ch_most hB (ch_leg hB h hk hs ht) hp)
theorem sgU_bump {B : Bd} {sg u : Nat → Nat} {k t j : Nat} : sgU B sg (bump u k t) j = if j = k then (sgU B sg u k + t) % B.d k else sgU B sg u j := by
  by_cases e : j = k
  · subst e
    rw [if_pos rfl]
    unfold sgU
    rw [bump_at, Nat.mod_add_mod, Nat.add_assoc]
  · rw [if_neg e]
    unfold sgU
    rw [bump_no e]
theorem often_le {len s i t : Nat} : often len s i t ≤ t / len + 1 := by
  unfold often
  split <;> omega
end Rt
end Go.Proofs.Ytjikildiblchpaa
