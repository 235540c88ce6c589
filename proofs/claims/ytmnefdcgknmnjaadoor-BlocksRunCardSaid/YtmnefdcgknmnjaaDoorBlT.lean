/- WALK: blocks.Turns where the table is one. -/
import Derived.Test.YtmnefdcgknmnjaaDoorBlK
import Derived.BigQuiet
import Derived.Deep.QuietTactic
namespace Go.Proofs.YtmnefdcgknmnjaaDoor
set_option linter.unusedSimpArgs false
set_option linter.unusedVariables false
open Go.RowKit Go.Lib
namespace Bl
open Tld Mem

theorem turned_q {v : Nat} (hv : v < 16) (w : World) : Calls Tryd.prog 24 #[.int .i64 v] w fun e w' => e = .returned (.int .i64 (trn v : Nat)) ∧ w' = w := (turned_any hv w).mono fun _ _ h => ⟨h.1, h.2.symm⟩
set_option maxHeartbeats 4000000 in
theorem turns_ok (ta : Option Addr) (tn tc : Nat) (tz : List Int) (w : World) (hT : Ints.Is w ta tn tz) (hf : tfault tz = 0) :
    Calls Tryd.prog 14 #[.slice ta tn tc] w fun e w' => e = .returned (.tuple #[.bool (turnsB tz), .nilIface]) ∧ Below w.heap.size w w' := by
  have hl := hT.le
  unfold maxLen at hl
  have HCK := Lib.hid (check_any ta tn tc tz w hT.len (by omega) hT.cells)
  rw [errV_zero hf] at HCK
  obtain ⟨h16, htb⟩ := tfault_zero hf
  obtain rfl : tn = 16 := by rw [← hT.len]; exact h16
  have HT := Lib.hid hT.cells
  have HTB := Lib.hid htb
  clear hT hf h16 htb
  go_enter Tryd.func14, Tryd.ntmps14
  go_wp2_with fail
  refine HCK.out.mono ?_
  rintro e1 w1 ⟨rfl, rfl⟩
  go_wp2_with fail
  go_loopw [14] (fun v wr => ∃ i : Nat, i ≤ 16 ∧ v = .int .i64 i ∧ All (fun b => tN tz (trn b) = trn (tN tz b)) i ∧ Below w.heap.size w wr) (fun v _ => 16 - (intOf v).toNat)
  case atStart => exact ⟨0, Nat.zero_le _, rfl, All.zero _, Below.refl _ _⟩
  case round =>
    obtain ⟨i, hi, rfl, hall, hbel⟩ := hrel
    have HA := Lib.hid hall
    clear hall
    by_cases hlt : i < 16
    · obtain ⟨b, off, rfl, _, hc⟩ := (HT.out.keep hbel) i hlt
      obtain ⟨b', off', e', _, hc2⟩ := (HT.out.keep hbel) (trn i) (trn_lt i)
      cases e'
      dsimp only at hc hc2
      rw [tN_at HTB.out] at hc hc2
      have ht16 := tN_lt HTB.out i
      have hti := trn_lt i
      by_cases he : tN tz (trn i) = trn (tN tz i)
      · have HN := Lib.hid (HA.out.next he)
        rw [he] at hc2
        clear he
        generalize tN tz i = tv at *
        go_wp2_with fail
        go_quiet (first | (go_at_call 24; refine Calls.quiet_of_same (turned_q (by first | exact hlt | exact ht16) _)))
        go_wp2
        go_roundw
        case rel => exact ⟨i + 1, by omega, by go_num, HN.out, below_drewN hbel _⟩
        case measure => simp [intOf]; omega
      · have HF : Hid (turnsB tz = false) := @decide_eq_false _ (Classical.propDecidable _) fun h => he (h i hlt)
        have hno : (((tN tz (trn i) : Nat) : Int) != ((trn (tN tz i) : Nat) : Int)) = true := by rw [bne_iff_ne]; omega
        clear he
        generalize tN tz (trn i) = q'' at *
        generalize tN tz i = tv at *
        go_wp2_with fail
        go_quiet (first | (go_at_call 24; refine Calls.quiet_of_same (turned_q (by first | exact hlt | exact ht16) _)))
        go_wp2
        go_ret2
        exact ⟨congrArg (fun b => Ending.returned (.tuple #[.bool b, .nilIface])) HF.out.symm, below_drewN hbel _⟩
    · have HF : Hid (turnsB tz = true) := @decide_eq_true _ (Classical.propDecidable _) fun b hb => HA.out b (by omega)
      go_wp2
      go_ret2
      exact ⟨congrArg (fun b => Ending.returned (.tuple #[.bool b, .nilIface])) HF.out.symm, hbel⟩
end Bl
end Go.Proofs.YtmnefdcgknmnjaaDoor
