/- PLAIN: what LineShifts says of lists. -/
import Derived.Test.YtgefikkklbjcbaaDoorLnMv
namespace Go.Proofs.YtgefikkklbjcbaaDoor
set_option linter.unusedSimpArgs false
set_option linter.unusedVariables false
open Go.RowKit
namespace Ln
open Tld Mem

theorem wfault_ok {K B S st ra : Int} {tz : List Int} {tu : ByteArray} {wz : List Int} (h : lfault K B S st ra tz tu = 0) (hl : wz.length ≤ 1000) (hz : ∀ z ∈ wz, 0 ≤ z ∧ z < st) : wfault K B S st ra tz tu wz = 0 := by
  rw [wfault_yes (lfault_01 h), if_neg (by omega), if_neg]
  rw [Bool.not_eq_true, List.any_eq_false]
  intro z hz'
  have := hz z hz'
  simp; omega
theorem stepL_len {t : Nat → Nat} {st R : Nat} {wz : List Int} : (stepL t st R wz).length = wz.length := by unfold stepL; rw [lst_len]
theorem stepL_mem {t : Nat → Nat} {st R : Nat} {wz : List Int} (h : ∀ k, t k < st) : ∀ z ∈ stepL t st R wz, 0 ≤ z ∧ z < (st : Int) := lst_mem fun k => h _
theorem movL_len {b : Nat} {wz : List Int} : (movL b wz).length = wz.length := by unfold movL; rw [lst_len]
theorem movL_mem {b st : Nat} {wz : List Int} (hs : 0 < st) (h : ∀ z ∈ wz, 0 ≤ z ∧ z < (st : Int)) : ∀ z ∈ movL b wz, 0 ≤ z ∧ z < (st : Int) := lst_mem fun k => wf_lt hs h _
theorem step_moved {t : Nat → Nat} {st R b : Nat} {wz : List Int} (h : 0 < wz.length) : stepL t st R (movL b wz) = movL b (stepL t st R wz) := by
  unfold stepL
  rw [movL_len]
  unfold movL
  rw [lst_len]
  refine lst_congr fun k hk => ?_
  rw [wf_lst (Nat.mod_lt _ h), ← stp_moved h]
  exact stp_congr h (fun j hj => wf_lst hj) k
theorem step_table {N st R : Nat} {F : Nat → Nat} {wz : List Int} (hN : N = st ^ (2 * R + 1)) (hs : 0 < st) (hz : ∀ z ∈ wz, 0 ≤ z ∧ z < (st : Int)) (i : Nat) : stp (wf (lst N F)) st R wz.length (wf wz) i = stp F st R wz.length (wf wz) i := by
  unfold stp
  rw [wf_lst]
  rw [hN]
  exact win_lt fun k _ => wf_lt hs hz _
theorem step_comp {N st ra rb : Nat} {ta tb : Nat → Nat} {wz : List Int} (hN : N = st ^ (2 * (ra + rb) + 1)) (hs : 0 < st) (hz : ∀ z ∈ wz, 0 ≤ z ∧ z < (st : Int)) : stepL (wf (lst N (comp ta tb st ra rb))) st (ra + rb) wz = stepL tb st rb (stepL ta st ra wz) := by
  by_cases h : 0 < wz.length
  · unfold stepL
    rw [lst_len]
    refine lst_congr fun k hk => ?_
    rw [step_table hN hs hz, stp_comp h (wf_lt hs hz)]
    exact (stp_congr h (fun j hj => wf_lst hj) k).symm
  · have h0 : wz.length = 0 := by omega
    unfold stepL
    rw [lst_len, h0]
    rfl
theorem step_wide {N st ra q : Nat} {t : Nat → Nat} {wz : List Int} (hN : N = st ^ (2 * q + 1)) (hs : 0 < st) (hq : ra ≤ q) (hz : ∀ z ∈ wz, 0 ≤ z ∧ z < (st : Int)) : stepL (wf (lst N (wide t st ra q))) st q wz = stepL t st ra wz := by
  by_cases h : 0 < wz.length
  · unfold stepL
    refine lst_congr fun k hk => ?_
    rw [step_table hN hs hz, stp_wide h hq (wf_lt hs hz)]
  · have h0 : wz.length = 0 := by omega
    unfold stepL
    rw [h0]
    rfl
/-- A rule that was made is one. -/
theorem made_ok {N st R : Nat} {F : Nat → Nat} (h2 : 2 ≤ st) (h4 : st ≤ 4) (hN : N = st ^ (2 * R + 1)) (hN4 : N ≤ 4096) (hF : ∀ k, F k < st) : lfault 2 0 0 st R (lst N F) ⟨#[]⟩ = 0 :=
  lfault_ok ⟨rfl, rfl, rfl, by omega, by omega, by omega, by rw [lst_len, hN]; rfl, by rw [lst_len]; exact hN4, lst_mem hF, rfl⟩
theorem comp_lt {tza tzb : List Int} {st ra rb i : Nat} (h : ∀ k, wf tzb k < st) : comp (wf tza) (wf tzb) st ra rb i < st := h _
theorem wide_lt {tz : List Int} {st ra q i : Nat} (h : ∀ k, wf tz k < st) : wide (wf tz) st ra q i < st := h _
theorem wide_cases {K B S q : Int} {st ra : Nat} {tz wz : List Int} {tu : ByteArray} (h2 : 2 ≤ st) (ha : lfault K B S st ra tz tu = 0) (hz : ∀ z ∈ wz, 0 ≤ z ∧ z < (st : Int)) : (∃ fd, dfault K B S st ra tz tu q = fd ∧ fd ≠ 0) ∨ ∃ qn : Nat, q = qn ∧ ra ≤ qn ∧ ∃ N, N = st ^ (2 * qn + 1) ∧ N ≤ 4096 ∧ lfault 2 0 0 st qn (lst N (wide (wf tz) st ra qn)) ⟨#[]⟩ = 0 ∧ stepL (wf (lst N (wide (wf tz) st ra qn))) st qn wz = stepL (wf tz) st ra wz := by
  by_cases hd : dfault K B S st ra tz tu q = 0
  · right
    unfold dfault at hd
    rw [if_neg (by simp [ha])] at hd
    by_cases h1 : q < (ra : Int)
    · rw [if_pos h1] at hd; cases hd
    · rw [if_neg h1] at hd
      obtain ⟨qn, rfl⟩ := Int.eq_ofNat_of_zero_le (show 0 ≤ q by omega)
      rw [Int.toNat_natCast, Int.toNat_natCast] at hd
      by_cases h3 : 4096 < (qn : Int) ∨ 4096 < st ^ (2 * qn + 1)
      · rw [if_pos h3] at hd; cases hd
      · have h4 : st ^ (2 * qn + 1) ≤ 4096 := by omega
        have ho := lfault_01 ha
        have hs4 : st ≤ 4 := by have := ho.st4; omega
        exact ⟨qn, rfl, by omega, _, rfl, h4, made_ok h2 hs4 rfl h4 (fun k => wide_lt (fun k => wf_lt (by omega) ho.tz k)), step_wide rfl (by omega) (by omega) hz⟩
  · exact .inl ⟨_, rfl, hd⟩
theorem comp_cases {K B S K' B' S' st' rb : Int} {st ra : Nat} {tz tz' : List Int} {tu tu' : ByteArray} (ha : lfault K B S st ra tz tu = 0) : (∃ fc, cfault K B S st ra tz tu K' B' S' st' rb tz' tu' = fc ∧ fc ≠ 0) ∨ ∃ r : Nat, rb = r ∧ st' = st ∧ lfault K' B' S' st rb tz' tu' = 0 ∧ ∃ N, N = st ^ (2 * (ra + r) + 1) ∧ N ≤ 4096 := by
  by_cases hd : cfault K B S st ra tz tu K' B' S' st' rb tz' tu' = 0
  · right
    unfold cfault at hd
    rw [if_neg (by simp [ha])] at hd
    by_cases h1 : lfault K' B' S' st' rb tz' tu' = 0
    · rw [if_neg (by simp [h1])] at hd
      by_cases h3 : (st : Int) = st'
      · subst h3
        obtain ⟨r, rfl⟩ := Int.eq_ofNat_of_zero_le (lfault_01 h1).ra0
        rw [if_neg (by simp), Int.toNat_natCast, Int.toNat_natCast, Int.toNat_natCast] at hd
        by_cases h4 : 4096 < st ^ (2 * (ra + r) + 1)
        · rw [if_pos h4] at hd; cases hd
        · exact ⟨r, rfl, rfl, h1, _, rfl, by omega⟩
      · rw [if_pos h3] at hd; cases hd
    · rw [if_pos (by simpa using h1)] at hd
      exact absurd hd h1
  · exact .inl ⟨_, rfl, hd⟩
/-- Not in this block. -/
def Far (b : Nat) (a : Option Addr) (n : Nat) : Prop := ∀ i, i < n → ∀ b' o, a = some ⟨b', o, none⟩ → b' ≠ b
theorem far_of {w : World} {a : Option Addr} {n b : Nat} {zs : List Int} (h : Ints.Is w a n zs) (hb : w.heap.size ≤ b) : Far b a n := fun i hi b' o e => by
  obtain ⟨b2, o2, e2, h2, _⟩ := h.cells i hi
  rw [e] at e2
  cases e2
  omega
theorem is_only {w w' : World} {a : Option Addr} {n b : Nat} {zs : List Int} (h : Ints.Is w a n zs) (hf : Far b a n) (ho : Only b w w') : Ints.Is w' a n zs := by
  refine ⟨h.len, fun i hi => ?_, h.le⟩
  obtain ⟨b', o', e, hb, hc⟩ := h.cells i hi
  refine ⟨b', o', e, by rw [ho.size]; exact hb, ?_⟩
  rw [World.cell?_of_block (w := w) (ho.block b' (hf i hi b' o' e))]
  exact hc
theorem tu0 : (⟨#[]⟩ : ByteArray).size ≤ 9223372036854775807 := by decide
/-- Both cells turn: the first rule that the law looks at. -/
theorem fact_fault : wfault 2 0 0 2 0 [1, 0] ⟨#[]⟩ [0, 1] = 0 := by
  refine wfault_ok (lfault_ok ⟨rfl, rfl, rfl, by decide, by decide, by decide, rfl, by decide, ?_, rfl⟩) (by decide) ?_
  · intro z hz; simp at hz; omega
  · intro z hz; simp at hz; omega
theorem fact_step : stepL (wf [1, 0]) 2 0 [0, 1] = [1, 0] := by decide
end Ln
end Go.Proofs.YtgefikkklbjcbaaDoor
