/- PLAIN: words as lists; a rule of a line; no program in sight. -/
import Derived.Test.YthipeeagpllfeaaDoorLnPl
import Derived.Test.YthipeeagpllfeaaDoorMem
namespace Go.Proofs.YthipeeagpllfeaaDoor
set_option linter.unusedSimpArgs false
set_option linter.unusedVariables false
namespace Ln
open Mem

/-- A word as cells, a function as a word. -/
def wf (zs : List Int) (k : Nat) : Nat := (zs.getD k 0).toNat
def lst (n : Nat) (f : Nat → Nat) : List Int := (List.range n).map fun k => ((f k : Nat) : Int)
theorem lst_len {n : Nat} {f : Nat → Nat} : (lst n f).length = n := by simp [lst]
theorem lst_get {n k : Nat} {f : Nat → Nat} (h : k < n) : (lst n f).getD k 0 = ((f k : Nat) : Int) := by
  simp [lst, List.getD_eq_getElem?_getD, List.getElem?_range h]
theorem lst_succ (n : Nat) (f : Nat → Nat) : lst (n + 1) f = lst n f ++ [((f n : Nat) : Int)] := by
  unfold lst; rw [List.range_succ, List.map_append]; rfl
theorem lst_congr {n : Nat} {f g : Nat → Nat} (h : ∀ k, k < n → f k = g k) : lst n f = lst n g := by
  unfold lst
  exact List.map_congr_left fun k hk => by rw [h k (List.mem_range.1 hk)]
theorem wf_lst {n k : Nat} {f : Nat → Nat} (h : k < n) : wf (lst n f) k = f k := by unfold wf; rw [lst_get h]; rfl
theorem lst_wf {zs : List Int} (h : ∀ z ∈ zs, 0 ≤ z) : lst zs.length (wf zs) = zs := by
  apply List.ext_getElem lst_len
  intro i h1 h2
  have e := lst_get (f := wf zs) (show i < zs.length from h2)
  rw [List.getD_eq_getElem?_getD, List.getElem?_eq_getElem h1] at e
  refine e.trans ?_
  unfold wf
  rw [List.getD_eq_getElem?_getD, List.getElem?_eq_getElem h2]
  have := h _ (List.getElem_mem h2)
  show ((zs[i].toNat : Nat) : Int) = zs[i]
  omega
theorem wf_lt {zs : List Int} {st : Nat} (hs : 0 < st) (h : ∀ z ∈ zs, 0 ≤ z ∧ z < (st : Int)) (k : Nat) : wf zs k < st := by
  unfold wf
  rw [List.getD_eq_getElem?_getD]
  rcases Nat.lt_or_ge k zs.length with hk | hk
  · rw [List.getElem?_eq_getElem hk]
    have := h _ (List.getElem_mem hk)
    show zs[k].toNat < st
    omega
  · rw [List.getElem?_eq_none hk]; exact hs
theorem wf_at {zs : List Int} (h : ∀ z ∈ zs, 0 ≤ z) (k : Nat) : zs.getD k 0 = ((wf zs k : Nat) : Int) := by
  unfold wf
  rw [List.getD_eq_getElem?_getD]
  rcases Nat.lt_or_ge k zs.length with hk | hk
  · rw [List.getElem?_eq_getElem hk]
    have := h _ (List.getElem_mem hk)
    show zs[k] = _
    rw [Option.getD_some]
    omega
  · rw [List.getElem?_eq_none hk]; rfl
/-- A rule of a line. -/
structure Ok (K B S st ra : Int) (tz : List Int) (tu : ByteArray) : Prop where
  k : K = 2
  b : B = 0
  s : S = 0
  st2 : 2 ≤ st
  st4 : st ≤ 4
  ra0 : 0 ≤ ra
  len : tz.length = st.toNat ^ (2 * ra.toNat + 1)
  le : tz.length ≤ 4096
  tz : ∀ z ∈ tz, 0 ≤ z ∧ z < st
  tu : tu.size = 0
noncomputable def lfault (K B S st ra : Int) (tz : List Int) (tu : ByteArray) : Int := @ite _ (Ok K B S st ra tz tu) (Classical.propDecidable _) 0 1
theorem lfault_ok {K B S st ra : Int} {tz : List Int} {tu : ByteArray} (h : Ok K B S st ra tz tu) : lfault K B S st ra tz tu = 0 := @if_pos _ (Classical.propDecidable _) h _ _ _
theorem lfault_no {K B S st ra : Int} {tz : List Int} {tu : ByteArray} (h : ¬ Ok K B S st ra tz tu) : lfault K B S st ra tz tu = 1 := @if_neg _ (Classical.propDecidable _) h _ _ _
theorem Ok.ra5 {K B S st ra : Int} {tz : List Int} {tu : ByteArray} (h : Ok K B S st ra tz tu) : ra ≤ 5 := by
  have h0 := h.ra0
  have h1 := h.len
  have h2 := h.le
  have h3 := h.st2
  rcases Int.lt_or_le 5 ra with h5 | h5
  · exfalso
    have h6 : 2 ^ 13 ≤ st.toNat ^ (2 * ra.toNat + 1) := Nat.le_trans (Nat.pow_le_pow_right (by omega) (show 13 ≤ 2 * ra.toNat + 1 by omega)) (Nat.pow_le_pow_left (by omega) _)
    rw [← h1] at h6
    omega
  · exact h5
/-- The fault of a rule and a word. -/
noncomputable def wfault (K B S st ra : Int) (tz : List Int) (tu : ByteArray) (wz : List Int) : Int :=
  @ite _ (Ok K B S st ra tz tu) (Classical.propDecidable _) (if 1000 < wz.length then 4 else if wz.any (fun z => decide (z < 0 ∨ st ≤ z)) = true then 1 else 0) 1
theorem wfault_no {K B S st ra : Int} {tz : List Int} {tu : ByteArray} {wz : List Int} (h : ¬ Ok K B S st ra tz tu) : wfault K B S st ra tz tu wz = 1 := @if_neg _ (Classical.propDecidable _) h _ _ _
theorem wfault_yes {K B S st ra : Int} {tz : List Int} {tu : ByteArray} {wz : List Int} (h : Ok K B S st ra tz tu) : wfault K B S st ra tz tu wz = if 1000 < wz.length then 4 else if wz.any (fun z => decide (z < 0 ∨ st ≤ z)) = true then 1 else 0 := @if_pos _ (Classical.propDecidable _) h _ _ _
theorem wfault_zero {K B S st ra : Int} {tz : List Int} {tu : ByteArray} {wz : List Int} (h : wfault K B S st ra tz tu wz = 0) : Ok K B S st ra tz tu ∧ wz.length ≤ 1000 ∧ ∀ z ∈ wz, 0 ≤ z ∧ z < st := by
  classical
  by_cases ho : Ok K B S st ra tz tu
  · rw [wfault_yes ho] at h
    split at h
    · cases h
    · rename_i h1
      split at h
      · cases h
      · rename_i h2
        refine ⟨ho, by omega, fun z hz => ?_⟩
        have h3 := Bool.eq_false_iff.2 h2
        rw [List.any_eq_false] at h3
        have := h3 z hz
        simp at this
        omega
  · rw [wfault_no ho] at h; cases h
/-- A step of a word. -/
def stepL (t : Nat → Nat) (st R : Nat) (wz : List Int) : List Int := lst wz.length (stp t st R wz.length (wf wz))
def applyL (t : Nat → Nat) (st R : Nat) (wz : List Int) : List Int := lst (wz.length - 2 * R) (app t st R (wf wz))
/-- n steps of a word. -/
def runL (t : Nat → Nat) (st R : Nat) (wz : List Int) : Nat → List Int
  | 0 => wz
  | n + 1 => stepL t st R (runL t st R wz n)
theorem runL_len {t : Nat → Nat} {st R : Nat} {wz : List Int} : ∀ n, (runL t st R wz n).length = wz.length
  | 0 => rfl
  | n + 1 => by
    show (stepL t st R (runL t st R wz n)).length = _
    unfold stepL
    rw [lst_len, runL_len n]
theorem lst_mem {n : Nat} {f : Nat → Nat} {st : Nat} (h : ∀ k, f k < st) : ∀ z ∈ lst n f, 0 ≤ z ∧ z < (st : Int) := fun z hz => by
  unfold lst at hz
  obtain ⟨k, _, rfl⟩ := List.mem_map.1 hz
  have := h k
  omega
end Ln
end Go.Proofs.YthipeeagpllfeaaDoor
