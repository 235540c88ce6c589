/- WALK of the document's answer: edenref6.Laid. -/
import Derived.Test.YtjikildiblchpaaDoorGfP
namespace Go.Proofs.YtjikildiblchpaaDoor
set_option linter.unusedSimpArgs false
set_option linter.unusedVariables false
open Go.RowKit Go.Lib
namespace Rt
open Tld Mem

theorem laid_len {p s : Nat} {cs : List Int} (h : cs.length ≠ p) : cfault p s cs = 3 := by unfold cfault; rw [if_pos h]
theorem laid_bad {p s k : Nat} {cs : List Int} (h : cs.length = p) (hk : k < p) (hb : cs.getD k 0 < 0 ∨ 10000 < cs.getD k 0 ∨ (k = s ∧ cs.getD k 0 ≠ 0)) : cfault p s cs = 1 := by
  unfold cfault
  rw [if_neg (fun x => x h), if_pos]
  rcases hb with h1 | h1 | ⟨rfl, h1⟩
  · exact .inr (any_yes (k := k) (by omega) (decide_eq_true (.inl h1)))
  · exact .inr (any_yes (k := k) (by omega) (decide_eq_true (.inr h1)))
  · exact .inl h1
theorem laid_ok {p s : Nat} {cs : List Int} (h : cs.length = p) (hs : s < p) (hb : ∀ k, k < p → ¬ (cs.getD k 0 < 0 ∨ 10000 < cs.getD k 0 ∨ (k = s ∧ cs.getD k 0 ≠ 0))) : cfault p s cs = 0 := by
  unfold cfault
  rw [if_neg (fun x => x h), if_neg]
  rintro (h1 | h1)
  · exact hb s hs (.inr (.inr ⟨rfl, h1⟩))
  · have h2 : cs.any pbad = false := any_no fun k hk => decide_eq_false fun h3 => hb k (by omega) (h3.elim .inl fun h4 => .inr (.inl h4))
    rw [h2] at h1
    cases h1
set_option maxHeartbeats 8000000 in
set_option maxRecDepth 1000000 in
theorem rlaid_any (p s : Nat) (ea : Option Addr) (m ec : Nat) (ca : Option Addr) (cn cc : Nat) (cs : List Int) (w : World) (hC : Ints.Is w ca cn cs) (hs : s < p) :
    Calls Tryd.prog 10 #[.agg #[.int .i64 (p : Int), .slice ea m ec], .int .i64 (s : Int), .slice ca cn cc] w fun e w' => e = .returned (.int .i64 (cfault p s cs)) ∧ Below w.heap.size w w' := by
  have HC := Lib.hid hC
  have HL := Lib.hid hC.len
  have hcl := hC.le
  unfold maxLen at hcl
  clear hC
  go_enter Tryd.func10, Tryd.ntmps10
  go_upto_region 1 with fail
  have hR : Row (w.alloc (.cells #[.int .i64 (p : Int), .slice ea m ec] 24)) w.heap.size 24 [.int .i64 (p : Int), .slice ea m ec] := row_alloc w _ _
  have hB : Below w.heap.size w (w.alloc (.cells #[.int .i64 (p : Int), .slice ea m ec] 24)) := (Below.refl _ _).alloc (Nat.le_refl _) _
  have g0 := hR.cell 0
  have HB := Lib.hid hB
  have HC := Lib.hid (HC.out.keep hB)
  clear hR hB
  dsimp only [List.getElem?_cons_zero] at g0
  generalize w.alloc (.cells #[.int .i64 (p : Int), .slice ea m ec] 24) = w1 at *
  by_cases hl : cn = p
  · have hle : ((cn : Int) != (p : Int)) = false := by rw [hl]; exact bne_self_eq_false _
    have HLP : Hid (cs.length = p) := by rw [Hid, HL.out, hl]
    have hcp : (cn : Int) = (p : Int) := by omega
    have HCP := Lib.hid hl
    go_wp2_with fail
    clear hle hcp hl g0
    go_loopw [7] (fun u wr => ∃ k : Nat, k ≤ p ∧ u = .int .i64 (k : Int) ∧ (∀ j, j < k → ¬ (cs.getD j 0 < 0 ∨ 10000 < cs.getD j 0 ∨ (j = s ∧ cs.getD j 0 ≠ 0))) ∧ wr = w1) (fun u _ => p - (intOf u).toNat)
    case atStart => exact ⟨0, Nat.zero_le _, rfl, fun j hj => absurd hj (Nat.not_lt_zero _), rfl⟩
    case round =>
      obtain ⟨k, hkp, rfl, hall, rfl⟩ := hrel
      have HALL := Lib.hid hall
      clear hall
      by_cases hk : k < p
      · have hk2 : (k : Int) < (cn : Int) := by have := HCP.out; omega
        obtain ⟨bz, oz, rfl, _, hcz⟩ := HC.out.cells k (by have := HCP.out; omega)
        dsimp only at hcz
        have HBAD := Lib.hid (laid_bad (s := s) HLP.out hk)
        have HNX : Hid (¬ (cs.getD k 0 < 0 ∨ 10000 < cs.getD k 0 ∨ (k = s ∧ cs.getD k 0 ≠ 0)) → ∀ j, j < k + 1 → ¬ (cs.getD j 0 < 0 ∨ 10000 < cs.getD j 0 ∨ (j = s ∧ cs.getD j 0 ≠ 0))) := fun h j hj => by
          by_cases e : j = k
          · rw [e]; exact h
          · exact HALL.out j (by omega)
        obtain ⟨z, hz⟩ : ∃ z, z = cs.getD k 0 := ⟨_, rfl⟩
        rw [← hz] at hcz HBAD HNX
        clear hz
        by_cases h1 : z < 0
        · have HNO := Lib.hid (HBAD.out (.inl h1))
          go_wp2_with fail
          go_ret
          exact ⟨by rw [HNO.out]; rfl, HB.out⟩
        by_cases h2 : 10000 < z
        · have HNO := Lib.hid (HBAD.out (.inr (.inl h2)))
          go_wp2_with fail
          go_ret
          exact ⟨by rw [HNO.out]; rfl, HB.out⟩
        by_cases h3 : k = s
        · have q1 : ((k : Int) == (s : Int)) = true := by rw [h3]; exact beq_self_eq_true _
          by_cases h4 : z = 0
          · have q2 : (z != 0) = false := by rw [h4]; rfl
            have HY := Lib.hid (HNX.out (fun h => h.elim h1 fun h => h.elim h2 fun h => h.2 h4))
            clear h3 h4
            go_wp2_with fail
            go_roundw
            case rel => exact ⟨k + 1, by omega, by go_num, HY.out, by trivial⟩
            case measure => simp [intOf]; omega
          · have q2 : (z != 0) = true := by rw [bne_iff_ne]; exact h4
            have HNO := Lib.hid (HBAD.out (.inr (.inr ⟨h3, h4⟩)))
            clear h3 h4
            go_wp2_with fail
            go_ret
            exact ⟨by rw [HNO.out]; rfl, HB.out⟩
        · have q1 : ((k : Int) == (s : Int)) = false := by rw [beq_eq_false_iff_ne]; omega
          have HY := Lib.hid (HNX.out (fun h => h.elim h1 fun h => h.elim h2 fun h => h3 h.1))
          clear h3
          go_wp2_with fail
          go_roundw
          case rel => exact ⟨k + 1, by omega, by go_num, HY.out, by trivial⟩
          case measure => simp [intOf]; omega
      · obtain rfl : k = p := by omega
        have hk2 : ¬ (k : Int) < (cn : Int) := by have := HCP.out; omega
        have HYES := Lib.hid (laid_ok HLP.out hs HALL.out)
        go_wp2_with fail
        go_ret
        exact ⟨by rw [HYES.out]; rfl, HB.out⟩
  · have hle : ((cn : Int) != (p : Int)) = true := by rw [bne_iff_ne]; omega
    have HNO : Hid (cfault p s cs = 3) := laid_len (by rw [HL.out]; exact hl)
    clear hl
    go_wp2_with fail
    go_ret
    exact ⟨by rw [HNO.out]; rfl, HB.out⟩
end Rt
end Go.Proofs.YtjikildiblchpaaDoor
