/- WALK: counter.Play: fractions on a number, as far as the fuel lasts. -/
import Derived.Test.YtfhhnajnanlmgaaGreatDoorCpB
import Derived.Test.YtfhhnajnanlmgaaGreatDoorEi
namespace Go.Proofs.YtfhhnajnanlmgaaGreatDoor
set_option linter.unusedSimpArgs false
set_option linter.unusedVariables false
open Go.RowKit
namespace Cp
open Tld Mem

def outV (o : Int × Int × Int) : Value := .tuple #[.int .i64 o.1, .int .i64 o.2.1, errV o.2.2]
/-- Is there a bad fraction? -/
def BadIn (f : Nat → Nat → Int) (m : Nat) : Prop := ∃ i, i < m ∧ bad (f i 0) (f i 1) = true
theorem good_of {f : Nat → Nat → Int} {m : Nat} (h : ¬ BadIn f m) (h2 : ∀ i, i < m → f i 0 ≤ 9223372036854775807 ∧ f i 1 ≤ 9223372036854775807) : Good f m := fun i hi => by
  have h3 := h2 i hi
  by_cases hb : bad (f i 0) (f i 1) = true
  · exact absurd ⟨i, hi, hb⟩ h
  · unfold bad at hb
    rw [decide_eq_true_iff] at hb
    omega
theorem bad_of {f : Nat → Nat → Int} {m i : Nat} (hi : i < m) (h : f i 0 < 1 ∨ f i 1 < 1) : BadIn f m := ⟨i, hi, decide_eq_true h⟩

set_option maxHeartbeats 4000000 in
set_option maxRecDepth 1000000 in
theorem Play_bad1 (sa : Option Addr) (m c : Nat) (n F : Int) (w : World) (h : n < 1 ∨ F < 0 ∨ 100000 < F) :
    Calls Tryz.prog 15 #[.slice sa m c, .int .i64 n, .int .i64 F] w fun e w' => e = .returned (outV (0, 0, 1)) ∧ Below w.heap.size w w' := by
  go_enter Tryz.func15, Tryz.ntmps15
  by_cases h1 : n < 1
  · have d1 := decide_eq_true h1
    clear h h1
    go_wp2_with fail
    go_ret3
    exact ⟨rfl, Below.refl _ _⟩
  · have d1 := decide_eq_false h1
    by_cases h2 : F < 0
    · have d2 := decide_eq_true h2
      clear h h1 h2
      go_wp2_with fail
      go_ret3
      exact ⟨rfl, Below.refl _ _⟩
    · have d2 := decide_eq_false h2
      have h3 : 100000 < F := by omega
      have d3 := decide_eq_true h3
      clear h h1 h2 h3
      go_wp2_with fail
      go_ret3
      exact ⟨rfl, Below.refl _ _⟩

set_option maxHeartbeats 4000000 in
set_option maxRecDepth 1000000 in
theorem Play_bad2 (sa : Option Addr) (m c : Nat) (f : Nat → Nat → Int) (n F : Int) (w : World) (hm : m ≤ 9223372036854775807) (hF : Mem.Rows w sa m 2 (fun i j => .int .i64 (f i j))) (h1 : ¬ n < 1) (h2 : ¬ F < 0) (h3 : ¬ 100000 < F) (hb : BadIn f m) :
    Calls Tryz.prog 15 #[.slice sa m c, .int .i64 n, .int .i64 F] w fun e w' => e = .returned (outV (0, 0, 1)) ∧ Below w.heap.size w w' := by
  have HC := Lib.hid (contains_any sa m c f w hm hF)
  have HBD := Lib.hid hb
  clear hF hb
  have d1 := decide_eq_false h1
  have d2 := decide_eq_false h2
  have d3 := decide_eq_false h3
  clear h1 h2 h3
  go_enter Tryz.func15, Tryz.ntmps15
  go_wp2_with fail
  refine HC.out.mono ?_
  rintro e1 w1 ⟨⟨q, rfl, hq⟩, hb1⟩
  have hq2 : q = true := hq.2 HBD.out
  subst hq2
  have HB := Lib.hid hb1
  clear hq hb1
  go_wp2_with fail
  go_ret3
  exact ⟨rfl, HB.out⟩

set_option maxHeartbeats 8000000 in
set_option maxRecDepth 1000000 in
theorem Play_ok (sa : Option Addr) (m c : Nat) (f : Nat → Nat → Int) (n F : Nat) (a : Addr) (w : World) (hm : m ≤ 9223372036854775807) (hF : Mem.Rows w sa m 2 (fun i j => .int .i64 (f i j))) (h1 : 1 ≤ n) (hn : n ≤ 9223372036854775807) (h3 : F ≤ 100000) (hnb : ¬ BadIn f m) (hG : Good f m) (hS : Sent w a) :
    Calls Tryz.prog 15 #[.slice sa m c, .int .i64 n, .int .i64 F] w fun e w' => e = .returned (outV (plays f m F n 0)) ∧ Below w.heap.size w w' := by
  have HC := Lib.hid (contains_any sa m c f w hm hF)
  have HBD := Lib.hid hnb
  have HF := Lib.hid hF
  have HG := Lib.hid hG
  have HS := Lib.hid hS
  clear hF hG hS hnb
  have d1 : decide ((n : Int) < 1) = false := decide_eq_false (by omega)
  have d2 : decide ((F : Int) < 0) = false := decide_eq_false (by omega)
  have d3 : decide (100000 < (F : Int)) = false := decide_eq_false (by omega)
  obtain ⟨o, ho⟩ : ∃ o, o = plays f m F n 0 := ⟨_, rfl⟩
  rw [← ho]
  have HO := Lib.hid ho
  clear ho
  go_enter Tryz.func15, Tryz.ntmps15
  go_wp2_with fail
  refine HC.out.mono ?_
  rintro e1 w1 ⟨⟨q, rfl, hq⟩, hb1⟩
  have hq2 : q = false := by
    cases q
    · rfl
    · exact absurd (hq.1 rfl) HBD.out
  subst hq2
  have HB := Lib.hid hb1
  clear hq hb1 HC d1 d2 d3
  go_wp2_with fail
  go_loopw [1, 9] (fun u v wr => ∃ n k : Nat, u = .int .i64 n ∧ v = .int .i64 k ∧ k ≤ F ∧ 1 ≤ n ∧ n ≤ 9223372036854775807 ∧ o = plays f m (F - k) n k ∧ Below w.heap.size w wr) (fun _ v _ => F - (RowKit.intOf v).toNat)
  case atStart => exact ⟨n, 0, rfl, rfl, Nat.zero_le _, h1, hn, HO.out, HB.out⟩
  case round =>
    clear HO HB
    obtain ⟨n, k, rfl, rfl, hk, h1, hn, ho, hb⟩ := hrel
    have HO := Lib.hid ho
    have HB := Lib.hid hb
    clear ho hb
    have HP := Lib.hid (play_any sa m c f n a wr hm (HF.out.below HB.out (Nat.le_refl _)) HG.out hn (HS.out.keep HB.out))
    go_wp2_with fail
    refine HP.out.mono ?_
    rintro e2 w2 ⟨hp, hb2⟩
    have HB2 : Hid (Below w.heap.size w w2) := HB.out.trans (hb2.mono HB.out.size)
    have s1 : Sent w2 a := HS.out.keep HB2.out
    unfold Sent at s1
    clear hb2 HP
    have HK := Lib.hid hk
    have HN1 := Lib.hid h1
    have HNN := Lib.hid hn
    rcases hp with ⟨hN, rfl⟩ | ⟨i, hFi, ⟨hq, rfl⟩ | ⟨hq, rfl⟩⟩
    · have hI := Ei.is_same a w2
      have HN := Lib.hid hN
      clear hN
      go_wp2_with (go_at_call 36; refine hI.mono ?_; rintro e3 w3 ⟨rfl, hw⟩; rw [hw])
      go_ret3
      exact ⟨by rw [HO.out, plays_none HN.out]; rfl, HB2.out⟩
    · have hI := Ei.is_num 4 a w2
      have HFI := Lib.hid hFi
      have HQ := Lib.hid hq
      clear hFi hq
      by_cases hkF : k = F
      · subst hkF
        go_wp2_with (go_at_call 36; refine hI.mono ?_; rintro e3 w3 ⟨rfl, hw⟩; rw [hw])
        go_ret3
        exact ⟨by rw [HO.out, Nat.sub_self, plays_fuel HFI.out]; rfl, HB2.out⟩
      · have dk : ((k : Int) == (F : Int)) = false := beq_eq_false_iff_ne.2 (by omega)
        have dk2 := @decide_eq_false (k = F) _ hkF
        have HKF := Lib.hid hkF
        clear hkF
        go_wp2_with (go_at_call 36; refine hI.mono ?_; rintro e3 w3 ⟨rfl, hw⟩; rw [hw])
        go_ret3
        exact ⟨by rw [HO.out, plays_big HFI.out HQ.out _ _ (by have := HKF.out; omega)]; rfl, HB2.out⟩
    · have hI := Ei.is_nil a w2
      have HFI := Lib.hid hFi
      have HQ := Lib.hid hq
      clear hFi hq
      have hqp := quot_pos HG.out HFI.out (show 0 < n from h1)
      by_cases hkF : k = F
      · subst hkF
        go_wp2_with (go_at_call 36; refine hI.mono ?_; rintro e3 w3 ⟨rfl, hw⟩; rw [hw])
        go_ret3
        exact ⟨by rw [HO.out, Nat.sub_self, plays_fuel HFI.out]; rfl, HB2.out⟩
      · have dk : ((k : Int) == (F : Int)) = false := beq_eq_false_iff_ne.2 (by omega)
        have dk2 := @decide_eq_false (k = F) _ hkF
        have HKF := Lib.hid hkF
        clear hkF
        have hgo := plays_go HFI.out HQ.out (F - k) k (by have := HKF.out; omega)
        have HGO := Lib.hid hgo
        clear hgo
        have HFI2 := HFI
        generalize quot f n i = q at *
        go_wp2_with (go_at_call 36; refine hI.mono ?_; rintro e3 w3 ⟨rfl, hw⟩; rw [hw])
        go_roundw
        case rel => exact ⟨q, k + 1, rfl, by go_num, by have := HKF.out; omega, hqp, by have := HQ.out; omega, by rw [HO.out, HGO.out, Nat.sub_sub], HB2.out⟩
        case measure => have := HKF.out; simp [RowKit.intOf]; omega
end Cp
end Go.Proofs.YtfhhnajnanlmgaaGreatDoor
