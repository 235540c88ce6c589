/- WALK: line.Step, Apply, Run. -/
import Derived.Test.YtahhhbdnhimbfaaDoorLnS
import Derived.Lib.SliceRun
namespace Go.Proofs.YtahhhbdnhimbfaaDoor
set_option linter.unusedSimpArgs false
set_option linter.unusedVariables false
open Go.RowKit
namespace Ln
open Tld Mem

/-- What a rule that is one tells. -/
theorem Ok.nat {K B S st ra : Int} {tz : List Int} {tu : ByteArray} {tn : Nat} (h : Ok K B S st ra tz tu) (hl : tz.length = tn) : ∃ s r : Nat, st = s ∧ ra = r ∧ 2 ≤ s ∧ s ≤ 4 ∧ r ≤ 5 ∧ tn = s ^ (2 * r + 1) ∧ tn ≤ 4096 ∧ ∀ z ∈ tz, 0 ≤ z ∧ z < (s : Int) := by
  obtain ⟨s, rfl⟩ := Int.eq_ofNat_of_zero_le (show 0 ≤ st by have := h.st2; omega)
  obtain ⟨r, rfl⟩ := Int.eq_ofNat_of_zero_le h.ra0
  have h1 := h.st2
  have h2 := h.st4
  have h3 := h.ra5
  exact ⟨s, r, rfl, rfl, by omega, by omega, by omega, by rw [← hl, h.len]; rfl, by rw [← hl]; exact h.le, h.tz⟩
theorem infoRuleR : (Tryd.prog.info? 24).map (·.size) = some 7 := by kernel_rfl
set_option maxHeartbeats 8000000 in
set_option maxRecDepth 1000000 in
theorem stepL_fault (K B S st ra : Int) (ta : Option Addr) (tn tc : Nat) (tz : List Int) (tu : ByteArray) (wa : Option Addr) (wn wc : Nat) (wz : List Int) (f : Int) (w : World) (hT : Ints.Is w ta tn tz) (hu : tu.size ≤ 9223372036854775807) (hW : Ints.Is w wa wn wz) (hf : wfault K B S st ra tz tu wz = f) (h0 : f ≠ 0) :
    Calls Tryd.prog 7 #[.agg #[.int .i64 K, .int .i64 B, .int .i64 S, .int .i64 st, .int .i64 ra, .slice ta tn tc, .string tu], .slice wa wn wc] w fun e w' => e = .returned (.tuple #[.slice none 0 0, .iface 45 (.int .i64 f)]) ∧ Below w.heap.size w w' := by
  obtain ⟨hR, hB⟩ := row_rule w K B S st ra ta tn tc tu
  have HB := Lib.hid hB
  have HC := Lib.hid (wcheck_any K B S st ra ta tn tc tz tu wa wn wc wz _ (hT.keep hB) hu (hW.keep hB))
  rw [hf, errV_some h0] at HC
  clear hR hB hT hW hf
  unfold rulL at HC
  go_enter Tryd.func7, Tryd.ntmps7
  go_wp2_with fail
  refine HC.out.mono ?_
  rintro e1 w1 ⟨rfl, hb1⟩
  have HB1 := Lib.hid (HB.out.trans (hb1.mono HB.out.size))
  clear hb1
  go_wp2_with fail
  go_ret2
  exact ⟨rfl, HB1.out⟩
set_option maxHeartbeats 8000000 in
set_option maxRecDepth 1000000 in
theorem stepL_ok (K B S : Int) (st ra : Nat) (ta : Option Addr) (tn tc : Nat) (tz : List Int) (tu : ByteArray) (wa : Option Addr) (wn wc : Nat) (wz : List Int) (w : World) (hT : Ints.Is w ta tn tz) (hu : tu.size ≤ 9223372036854775807) (hW : Ints.Is w wa wn wz) (hwc : wn ≤ wc) (hf : wfault K B S st ra tz tu wz = 0) :
    Calls Tryd.prog 7 #[.agg #[.int .i64 K, .int .i64 B, .int .i64 S, .int .i64 st, .int .i64 ra, .slice ta tn tc, .string tu], .slice wa wn wc] w fun e w' => (∃ ao co, e = .returned (.tuple #[.slice ao (wn) co, .nilIface]) ∧ wn ≤ co ∧ Ints.Is w' ao (wn) (stepL (wf tz) st ra wz) ∧ (ao = none → wn = 0)) ∧ Below w.heap.size w w' := by
  obtain ⟨hR, hB⟩ := row_rule w K B S st ra ta tn tc tu
  have HB := Lib.hid hB
  have HR := Lib.hid hR
  have HC := Lib.hid (wcheck_any K B S st ra ta tn tc tz tu wa wn wc wz _ (hT.keep hB) hu (hW.keep hB))
  rw [hf, errV_zero rfl] at HC
  obtain ⟨ho, hn, hz⟩ := wfault_zero hf
  obtain ⟨s, r, hs, hr', h2, h4, hr5, htn, htl, htz⟩ := ho.nat hT.len
  obtain rfl : st = s := by omega
  obtain rfl : ra = r := by omega
  have hwl := hW.len
  have HST := Lib.hid (fun (w2 : World) (h3 : Below w.heap.size w w2) => step_any K B S st ra ta tn tc tz tu wa wn wc wz w2 (hT.keep h3) h2 h4 hr5 htn htl htz (hW.keep h3) hz (by omega))
  clear hR hB hT hW hf ho hz htz htn hs hr'
  unfold rulL at HC HST
  go_enter Tryd.func7, Tryd.ntmps7
  go_wp2_with fail
  refine HC.out.mono ?_
  rintro e1 w1 ⟨rfl, hb1⟩
  have HR1 := Lib.hid (HR.out.keep hb1 HR.out.lt)
  have HB1 := Lib.hid (HB.out.trans (hb1.mono HB.out.size))
  clear hb1
  have l2 := row_range HR1.out
  go_wp2_with (refine wpList_load_mid rfl 24 _ rfl w.heap.size 0 rfl _ _ l2 Tryd.underlying24 rfl infoRuleR ?_)
  clear l2
  refine (HST.out _ HB1.out).mono ?_
  rintro e2 w2 ⟨⟨v', rfl, hown⟩, hb2⟩
  obtain ⟨ao, co, rfl, hco⟩ := own_slice2 hown
  have hI := own_is hown (by unfold stepL; rw [lst_len]; omega) (by unfold maxLen; omega)
  have HI := Lib.hid hI.1
  have HNI := Lib.hid hI.2
  have HB2 := Lib.hid (HB1.out.trans (hb2.mono HB1.out.size))
  clear hb2 hown hI
  go_wp2_with fail
  go_ret2
  exact ⟨⟨ao, co, rfl, hco, HI.out, HNI.out⟩, HB2.out⟩
end Ln
end Go.Proofs.YtahhhbdnhimbfaaDoor
