/- WALK: blocks.Keeps, blocks.Turns, and what they call. -/
import Derived.Test.YtmnefdcgknmnjaaDoorBlR
import Derived.BigQuiet
import Derived.Deep.QuietTactic
namespace Go.Proofs.YtmnefdcgknmnjaaDoor
set_option linter.unusedSimpArgs false
set_option linter.unusedVariables false
open Go.RowKit Go.Lib
namespace Bl
open Tld Mem

theorem sixteen {v : Nat} (h : v < 16) : v = 0 ∨ v = 1 ∨ v = 2 ∨ v = 3 ∨ v = 4 ∨ v = 5 ∨ v = 6 ∨ v = 7 ∨ v = 8 ∨ v = 9 ∨ v = 10 ∨ v = 11 ∨ v = 12 ∨ v = 13 ∨ v = 14 ∨ v = 15 := by omega
set_option maxHeartbeats 4000000 in
theorem ones64_any {v : Nat} (hv : v < 16) (w : World) : Calls Tryd.prog 32 #[.int .u64 v] w fun e w' => e = .returned (.int .i64 (pc v : Nat)) ∧ w = w' := by
  rcases sixteen hv with rfl | rfl | rfl | rfl | rfl | rfl | rfl | rfl | rfl | rfl | rfl | rfl | rfl | rfl | rfl | rfl
  all_goals
    go_enter Tryd.func32, Tryd.ntmps32
    go_wp2
    go_ret
    exact ⟨congrArg (fun z => Ending.returned (.int .i64 z)) (by decide +kernel), rfl⟩
theorem ones_any {v : Nat} (hv : v < 16) (w : World) : Calls Tryd.prog 23 #[.int .u64 v] w fun e w' => e = .returned (.int .i64 (pc v : Nat)) ∧ w = w' := by
  go_enter Tryd.func23, Tryd.ntmps23
  go_wp2_with fail
  refine (ones64_any hv w).mono ?_
  rintro e1 w1 ⟨rfl, rfl⟩
  go_wp2
  go_ret
  exact ⟨rfl, rfl⟩
theorem turned_any {v : Nat} (hv : v < 16) (w : World) : Calls Tryd.prog 24 #[.int .i64 v] w fun e w' => e = .returned (.int .i64 (trn v : Nat)) ∧ w = w' := by
  rcases sixteen hv with rfl | rfl | rfl | rfl | rfl | rfl | rfl | rfl | rfl | rfl | rfl | rfl | rfl | rfl | rfl | rfl
  all_goals
    go_enter Tryd.func24, Tryd.ntmps24
    go_wp2
    go_ret
    exact ⟨congrArg (fun z => Ending.returned (.int .i64 z)) (by decide +kernel), rfl⟩
/-- Does a table keep how many cells live? Does it not mind being turned? -/
noncomputable def keepsB (tz : List Int) : Bool := @decide (∀ b, b < 16 → pc (tN tz b) = pc b) (Classical.propDecidable _)
noncomputable def turnsB (tz : List Int) : Bool := @decide (∀ b, b < 16 → tN tz (trn b) = trn (tN tz b)) (Classical.propDecidable _)
/-- What the first i numbers say. -/
def All (p : Nat → Prop) (i : Nat) : Prop := ∀ b, b < i → p b
theorem All.next {p : Nat → Prop} {i : Nat} (h : All p i) (e : p i) : All p (i + 1) := fun b hb => by
  by_cases hbi : b = i
  · rw [hbi]; exact e
  · exact h b (by omega)
theorem All.zero (p : Nat → Prop) : All p 0 := fun b h => absurd h (Nat.not_lt_zero _)
theorem tN_lt {tz : List Int} (h : ∀ z ∈ tz, 0 ≤ z ∧ z ≤ 15) (b : Nat) : tN tz b < 16 := by
  have := tz_get h b
  unfold tN; omega
theorem tN_at {tz : List Int} (h : ∀ z ∈ tz, 0 ≤ z ∧ z ≤ 15) (b : Nat) : tz.getD b 0 = ((tN tz b : Nat) : Int) := by
  have := tz_get h b
  unfold tN; omega

set_option maxHeartbeats 4000000 in
theorem keeps_fault (ta : Option Addr) (tn tc : Nat) (tz : List Int) (w : World) (hT : Ints.Is w ta tn tz) (hf : tfault tz ≠ 0) :
    Calls Tryd.prog 13 #[.slice ta tn tc] w fun e w' => e = .returned (.tuple #[.bool false, errV (tfault tz)]) ∧ Below w.heap.size w w' := by
  have hl := hT.le
  unfold maxLen at hl
  have HCK := Lib.hid (check_any ta tn tc tz w hT.len (by omega) hT.cells)
  rw [errV_some hf] at HCK
  rw [errV_some hf]
  clear hT hf
  go_enter Tryd.func13, Tryd.ntmps13
  go_wp2_with fail
  refine HCK.out.mono ?_
  rintro e1 w1 ⟨rfl, rfl⟩
  go_wp2
  go_ret2
  exact ⟨rfl, Below.refl _ _⟩
set_option maxHeartbeats 4000000 in
theorem turns_fault (ta : Option Addr) (tn tc : Nat) (tz : List Int) (w : World) (hT : Ints.Is w ta tn tz) (hf : tfault tz ≠ 0) :
    Calls Tryd.prog 14 #[.slice ta tn tc] w fun e w' => e = .returned (.tuple #[.bool false, errV (tfault tz)]) ∧ Below w.heap.size w w' := by
  have hl := hT.le
  unfold maxLen at hl
  have HCK := Lib.hid (check_any ta tn tc tz w hT.len (by omega) hT.cells)
  rw [errV_some hf] at HCK
  rw [errV_some hf]
  clear hT hf
  go_enter Tryd.func14, Tryd.ntmps14
  go_wp2_with fail
  refine HCK.out.mono ?_
  rintro e1 w1 ⟨rfl, rfl⟩
  go_wp2
  go_ret2
  exact ⟨rfl, Below.refl _ _⟩
set_option maxHeartbeats 4000000 in
theorem keeps_ok (ta : Option Addr) (tn tc : Nat) (tz : List Int) (w : World) (hT : Ints.Is w ta tn tz) (hf : tfault tz = 0) :
    Calls Tryd.prog 13 #[.slice ta tn tc] w fun e w' => e = .returned (.tuple #[.bool (keepsB tz), .nilIface]) ∧ Below w.heap.size w w' := by
  have hl := hT.le
  unfold maxLen at hl
  have HCK := Lib.hid (check_any ta tn tc tz w hT.len (by omega) hT.cells)
  rw [errV_zero hf] at HCK
  obtain ⟨h16, htb⟩ := tfault_zero hf
  obtain rfl : tn = 16 := by rw [← hT.len]; exact h16
  have HT := Lib.hid hT.cells
  have HTB := Lib.hid htb
  clear hT hf h16 htb
  go_enter Tryd.func13, Tryd.ntmps13
  go_wp2_with fail
  refine HCK.out.mono ?_
  rintro e1 w1 ⟨rfl, rfl⟩
  go_wp2_with fail
  go_loop [14] (fun v => ∃ i : Nat, i ≤ 16 ∧ v = .int .i64 i ∧ All (fun b => pc (tN tz b) = pc b) i) (fun v => 16 - (intOf v).toNat)
  case atStart => exact ⟨0, Nat.zero_le _, rfl, All.zero _⟩
  case round =>
    obtain ⟨i, hi, rfl, hall⟩ := hrel
    have HA := Lib.hid hall
    clear hall
    by_cases hlt : i < 16
    · obtain ⟨b, off, rfl, _, hc⟩ := HT.out i hlt
      dsimp only at hc
      rw [tN_at HTB.out i] at hc
      have ht16 := tN_lt HTB.out i
      have HO1 := Lib.hid (ones_any hlt w)
      have HO2 := Lib.hid (ones_any ht16 w)
      by_cases he : pc (tN tz i) = pc i
      · have HN := Lib.hid (HA.out.next he)
        rw [he] at HO2
        clear he
        generalize tN tz i = tv at *
        generalize pc i = q at *
        go_wp2_with fail
        refine HO1.out.mono ?_
        rintro e2 w2 ⟨rfl, rfl⟩
        go_wp2_with fail
        refine HO2.out.mono ?_
        rintro e3 w3 ⟨rfl, rfl⟩
        go_wp2_with fail
        go_round
        case rel => exact ⟨i + 1, by omega, by go_num, HN.out⟩
        case measure => simp [intOf]; omega
      · have HF : Hid (keepsB tz = false) := @decide_eq_false _ (Classical.propDecidable _) fun h => he (h i hlt)
        have hno : (((pc i : Nat) : Int) != ((pc (tN tz i) : Nat) : Int)) = true := by rw [bne_iff_ne]; omega
        clear he
        generalize tN tz i = tv at *
        generalize pc i = q at *
        generalize pc tv = q' at *
        go_wp2_with fail
        refine HO1.out.mono ?_
        rintro e2 w2 ⟨rfl, rfl⟩
        go_wp2_with fail
        refine HO2.out.mono ?_
        rintro e3 w3 ⟨rfl, rfl⟩
        go_wp2_with fail
        go_ret2
        exact ⟨congrArg (fun b => Ending.returned (.tuple #[.bool b, .nilIface])) HF.out.symm, Below.refl _ _⟩
    · have HF : Hid (keepsB tz = true) := @decide_eq_true _ (Classical.propDecidable _) fun b hb => HA.out b (by omega)
      go_wp2
      go_ret2
      exact ⟨congrArg (fun b => Ending.returned (.tuple #[.bool b, .nilIface])) HF.out.symm, Below.refl _ _⟩
end Bl
end Go.Proofs.YtmnefdcgknmnjaaDoor
