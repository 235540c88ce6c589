/- THE LAW GrowLetters: its walk, out of its callees' contracts. -/
import Derived.Test.YthggpjpmjhaidaaDoorGrLW
import Derived.Test.YthggpjpmjhaidaaDoorGrRL
import Derived.Test.YthggpjpmjhaidaaDoorSame
namespace Go.Proofs.YthggpjpmjhaidaaDoor
open Go.RowKit
namespace Gr
open Tld Mem

theorem images_bd (ss : List ByteArray) : -1000 ≤ images ss ∧ images ss ≤ 1000 := by
  have hf : ∀ (n : Nat) (l : List ByteArray), -1000 ≤ faults n l ∧ faults n l ≤ 1000 := by
    intro n l
    induction l with
    | nil => simp [faults]
    | cons s r ih =>
      unfold faults
      split
      · omega
      · split
        · exact ih
        · omega
  unfold images
  split
  · omega
  · exact hf _ _
theorem fault_bd (ss : List ByteArray) (word : ByteArray) (k : Int) : -1000 ≤ fault ss word k ∧ fault ss word k ≤ 1000 := by
  unfold fault
  split
  · exact images_bd ss
  split
  · omega
  split
  · omega
  split
  · omega
  · omega

set_option maxHeartbeats 8000000 in
set_option maxRecDepth 1000000 in
theorem growLetters_bad (a : Option Addr) (n c : Nat) (ss : List ByteArray) (word : ByteArray) (k pos : Int) (w : World) (hS : Sys w a n ss) (hw : word.size ≤ maxLen) (hg : Laid w) (hf : fault ss word k ≠ 0) :
    Calls Tryd.prog 5 #[.slice a n c, .string word, .int .i64 k, .int .i64 pos] w fun e w' => e = .returned (.bool true) ∧ Below w.heap.size w w' := by
  have HF := Lib.hid hf
  have HW := Lib.hid hw
  have hb : (fault ss word k == 0) = false := by rw [beq_eq_false_iff_ne]; exact hf
  clear hf hw
  go_enter Tryd.func5, Tryd.ntmps5
  go_wp2_with fail
  refine (rfault_any a n c ss word k w hS HW.out).mono ?_
  rintro e2 w2 ⟨rfl, rfl⟩
  go_wp2_with fail
  refine (letter_bad a n c ss word k pos _ hS HW.out HF.out).mono ?_
  rintro e3 w3 ⟨rfl, hb3⟩
  go_wp2_with fail
  refine (same_iface _ _ (hg.keep hb3) (fault_bd ss word k) HF.out).mono ?_
  rintro e4 w4 ⟨rfl, hb4⟩
  have hb4 := hb3.trans (hb4.mono hb3.size)
  go_wp2_with fail
  go_ret
  exact ⟨rfl, hb4⟩

set_option maxHeartbeats 8000000 in
set_option maxRecDepth 1000000 in
theorem growLetters_full (a : Option Addr) (n c : Nat) (ss : List ByteArray) (word : ByteArray) (k : Nat) (pos : Int) (w : World) (hS : Sys w a n ss) (hw : word.size ≤ maxLen) (hg : Laid w) (hf : fault ss word k = 0) (hc : countTo ss k (cnt word.data.toList) = none) :
    Calls Tryd.prog 5 #[.slice a n c, .string word, .int .i64 k, .int .i64 pos] w fun e w' => e = .returned (.bool true) ∧ Below w.heap.size w w' := by
  have HF := Lib.hid hf
  have HW := Lib.hid hw
  have HRF : Hid (∀ w2 : World, Sys w2 a n ss → Calls Tryd.prog 15 #[.slice a n c, .string word, .int .i64 k] w2 fun e w' => e = .returned (.int .i64 0) ∧ w2 = w') := fun w2 h2 => by
    have := rfault_any a n c ss word k w2 h2 hw
    rw [hf] at this
    exact this
  have HRC : Hid (∀ w2 : World, Sys w2 a n ss → Calls Tryd.prog 19 #[.slice a n c, .string word, .int .i64 k] w2 fun e w' => e = .returned (.tuple #[.slice none 0 0, .int .i64 4]) ∧ Below w2.heap.size w2 w') := fun w2 h2 => by
    have := rcount_any a n c ss word k w2 h2 hf
    rw [hc] at this
    refine this.mono ?_
    rintro e w' ⟨⟨v, rfl, hv⟩, hb⟩
    obtain rfl : v = _ := hv
    exact ⟨rfl, hb⟩
  have HL := Lib.hid (fun w2 h2 => letter_full a n c ss word k pos w2 h2 hw hf hc)
  clear hf hw hc
  go_enter Tryd.func5, Tryd.ntmps5
  go_wp2_with fail
  refine (HRF.out w hS).mono ?_
  rintro e2 w2 ⟨rfl, rfl⟩
  go_wp2_with fail
  refine (HRC.out w hS).mono ?_
  rintro e3 w3 ⟨rfl, hb3⟩
  go_wp2_with fail
  go_loop [13, 14] (fun v u => v = .int .i64 0 ∧ u = .int .i64 0) (fun _ _ => 0)
  case atStart => exact ⟨rfl, rfl⟩
  case round =>
    obtain ⟨rfl, rfl⟩ := hrel
    go_wp2_with fail
    refine (HL.out w3 (hS.keep hb3)).mono ?_
    rintro e4 w4 ⟨rfl, hb4⟩
    have hb4 := hb3.trans (hb4.mono hb3.size)
    go_wp2_with fail
    refine (same_iface 4 _ (hg.keep hb4) (by omega) (by decide)).mono ?_
    rintro e5 w5 ⟨rfl, hb5⟩
    have hb5 := hb4.trans (hb5.mono hb4.size)
    go_wp2_with fail
    go_ret
    exact ⟨rfl, hb5⟩

set_option maxHeartbeats 8000000 in
set_option maxRecDepth 1000000 in
theorem growLetters_ok (a : Option Addr) (n c : Nat) (ss : List ByteArray) (word : ByteArray) (k : Nat) (pos : Int) (g : Nat → Nat) (w : World) (hS : Sys w a n ss) (hw : word.size ≤ maxLen) (hg : Laid w) (hf : fault ss word k = 0) (hc : countTo ss k (cnt word.data.toList) = some g) :
    Calls Tryd.prog 5 #[.slice a n c, .string word, .int .i64 k, .int .i64 pos] w fun e w' => e = .returned (.bool true) ∧ Below w.heap.size w w' := by
  have HF := Lib.hid hf
  have HW := Lib.hid hw
  obtain ⟨h0, h1, h2, _, h4⟩ := fault_zero hf
  have hn8 := images_le h0
  have hgI := count_growI h0 k h2 hc
  have hlen : sumTo g n = lenW ss k word.data.toList := by
    rw [hgI, ← hS.len, sumTo_cnt (growI_letters h0 k h2)]; rfl
  have hmost : sumTo g n ≤ most := by
    rw [hlen]; exact count_last h0 k h2 (by rw [← Lib.size_eq]; unfold most; omega) hc
  have HRF : Hid (∀ w2 : World, Sys w2 a n ss → Calls Tryd.prog 15 #[.slice a n c, .string word, .int .i64 k] w2 fun e w' => e = .returned (.int .i64 0) ∧ w2 = w') := fun w2 h2 => by
    have := rfault_any a n c ss word k w2 h2 hw
    rw [hf] at this
    exact this
  have HRC : Hid (∀ w2 : World, Sys w2 a n ss → Calls Tryd.prog 19 #[.slice a n c, .string word, .int .i64 k] w2 fun e w' => (∃ v, e = .returned v ∧ CountR (some g) n w2.heap.size w' v) ∧ Below w2.heap.size w2 w') := fun w2 h2 => by
    rw [← hc]; exact rcount_any a n c ss word k w2 h2 hf
  have HLR := Lib.hid (fun (hat : pos < 0 ∨ (sumTo g n : Nat) ≤ pos) w2 h2 => letter_range a n c ss word k pos g w2 h2 hw hf hc hmost hat)
  have HAT : Hid (∀ p : Nat, p < sumTo g n → At ss k word.data.toList p ((growI ss k word.data.toList).getD p 0)) := fun p hp => ⟨by rw [← hlen]; exact hp, rfl⟩
  have HL : Hid (∀ (p : Nat) (w2 : World), p < sumTo g n → Sys w2 a n ss → Calls Tryd.prog 21 #[.slice a n c, .string word, .int .i64 k, .int .i64 p] w2 fun e w' => e = .returned (.tuple #[.string ⟨#[(growI ss k word.data.toList).getD p 0]⟩, .nilIface]) ∧ Below w2.heap.size w2 w') := fun p w2 hp h2 =>
    letter_ok a n c ss word k p g _ w2 h2 hw hf hc hmost hp (HAT.out p hp)
  have HRL : Hid (∀ (p : Nat) (w2 : World), p < sumTo g n → Sys w2 a n ss → Calls Tryd.prog 20 #[.slice a n c, .string word, .int .i64 k, .int .i64 p] w2 fun e w' => e = .returned (.string ⟨#[(growI ss k word.data.toList).getD p 0]⟩) ∧ Below w2.heap.size w2 w') := fun p w2 hp h3 =>
    rletter_any a n c ss _ h0 k word p w2 h3 h1 h2 (by omega) (by unfold most at hmost; omega) ⟨g, hc⟩ (HAT.out p hp)
  have HM := Lib.hid (fun t (ht : t ≤ n) => sumTo_mono g ht)
  rw [hS.len] at hn8
  unfold most at hmost
  have HMOST := Lib.hid hmost
  clear hf hw hc hlen hgI h0 h1 h2 hmost
  go_enter Tryd.func5, Tryd.ntmps5
  go_wp2_with fail
  refine (HRF.out w hS).mono ?_
  rintro e2 w2 ⟨rfl, rfl⟩
  go_wp2_with fail
  refine (HRC.out w hS).mono ?_
  rintro e3 w3 ⟨⟨v, rfl, hv⟩, hb3⟩
  obtain ⟨q, hq, rfl, hR⟩ := hv
  have HR := Lib.hid hR
  clear hR
  go_wp2_with fail
  go_loop [13, 14] (fun v u => ∃ t : Nat, t ≤ n ∧ u = .int .i64 t ∧ v = .int .i64 (sumTo g t : Nat)) (fun _ u => n - (intOf u).toNat)
  case atStart => exact ⟨0, Nat.zero_le _, rfl, rfl⟩
  case round =>
    obtain ⟨t, ht, rfl, rfl⟩ := hrel
    by_cases htn : t < n
    · have hci : w3.cell? ⟨q, t, none⟩ = some (.int .i64 (g t : Nat)) := (HR.out.cell t).trans (arrN_get g htn)
      have HS1 : Hid (sumTo g (t + 1) = sumTo g t + g t) := Lib.hid (show sumTo g (t + 1) = sumTo g t + g t from rfl)
      have hle := HM.out (t + 1) htn
      have hle0 := HMOST.out
      rw [HS1.out] at hle
      have hle2 : (sumTo g t : Int) + (g t : Int) ≤ 1000000000000000000 := by omega
      clear hle hle0
      generalize hgt : g t = gt at *
      go_wp2
      go_round
      case rel => exact ⟨t + 1, by omega, by go_num, by rw [HS1.out, Int.natCast_add]⟩
      case measure => simp [intOf]; omega
    · obtain rfl : t = n := by omega
      have hm := HMOST.out
      generalize sumTo g t = S at *
      by_cases hat : 0 ≤ pos ∧ pos < S
      · obtain ⟨ha0, ha1⟩ := hat
        obtain ⟨p, rfl⟩ := Int.eq_ofNat_of_zero_le ha0
        have h1 := Lib.hid (HRL.out p w3 (by omega) (hS.keep hb3))
        have h2 := Lib.hid (fun w2 h2 => HL.out p w2 (by omega) h2)
        generalize (growI ss k word.data.toList).getD p 0 = x at *
        go_wp2_with fail
        refine h1.out.mono ?_
        rintro e4 w4 ⟨rfl, hb4⟩
        have hb4 := hb3.trans (hb4.mono hb3.size)
        go_wp2_with fail
        refine (h2.out w4 (hS.keep hb4)).mono ?_
        rintro e5 w5 ⟨rfl, hb5⟩
        have hb5 := hb4.trans (hb5.mono hb4.size)
        go_wp2_with fail
        refine (same_nil _ (hg.keep hb5)).mono ?_
        rintro e6 w6 ⟨rfl, hb6⟩
        have hb6 := hb5.trans (hb6.mono hb5.size)
        go_wp2_with fail
        go_ret
        exact ⟨rfl, hb6⟩
      · have hat' : pos < 0 ∨ (S : Nat) ≤ pos := by omega
        have h2 := Lib.hid (HLR.out hat')
        by_cases hp0 : pos < 0
        case' pos => skip
        case' neg => have hp1 : (S : Int) ≤ pos := by omega
        all_goals
          go_wp2_with fail
          refine (h2.out w3 (hS.keep hb3)).mono ?_
          rintro e4 w4 ⟨rfl, hb4⟩
          have hb4 := hb3.trans (hb4.mono hb3.size)
          go_wp2_with fail
          refine (same_iface 1 _ (hg.keep hb4) (by omega) (by decide)).mono ?_
          rintro e6 w6 ⟨rfl, hb6⟩
          have hb6 := hb4.trans (hb6.mono hb4.size)
          go_wp2_with fail
          go_ret
          exact ⟨rfl, hb6⟩

theorem growLetters_any (a : Option Addr) (n c : Nat) (ss : List ByteArray) (word : ByteArray) (k pos : Int) (w : World) (hS : Sys w a n ss) (hw : word.size ≤ maxLen) (hg : Laid w) :
    Calls Tryd.prog 5 #[.slice a n c, .string word, .int .i64 k, .int .i64 pos] w fun e w' => e = .returned (.bool true) ∧ Below w.heap.size w w' := by
  by_cases hf : fault ss word k = 0
  · obtain ⟨k, rfl⟩ := Int.eq_ofNat_of_zero_le (fault_zero hf).2.2.2.1
    cases hc : countTo ss k (cnt word.data.toList) with
    | none => exact growLetters_full a n c ss word k pos w hS hw hg hf hc
    | some g => exact growLetters_ok a n c ss word k pos g w hS hw hg hf hc
  · exact growLetters_bad a n c ss word k pos w hS hw hg hf
end Gr
end Go.Proofs.YthggpjpmjhaidaaDoor
