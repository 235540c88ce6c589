/- THE LAW LineCycles: its walk, out of its callees' contracts. -/
import Derived.Test.YtgefikkklbjcbaaDoorLnFt
import Derived.Test.YtgefikkklbjcbaaDoorLnCm
import Derived.Test.YtgefikkklbjcbaaDoorLnC2
import Derived.Test.YtgefikkklbjcbaaDoorSame
namespace Go.Proofs.YtgefikkklbjcbaaDoor
set_option linter.unusedSimpArgs false
set_option linter.unusedVariables false
open Go.RowKit
namespace Ln
open Tld Mem

theorem wfault_bnd {K B S st ra : Int} {tz : List Int} {tu : ByteArray} {wz : List Int} : -1000 ≤ wfault K B S st ra tz tu wz ∧ wfault K B S st ra tz tu wz ≤ 1000 := by
  classical
  by_cases h : Ok K B S st ra tz tu
  · rw [wfault_yes h]
    split
    · omega
    · split <;> omega
  · rw [wfault_no h]; omega
/-- What the two tell of a word. -/
theorem cyc_both {t : Nat → Nat} {st R : Nat} {wz : List Int} {a p b q : Nat} {e : Int} {ok : Bool} (h1 : Cy.ByMap (runL t st R wz) 100000 a p e) (h2 : Cy.ByTwo (runL t st R wz) 100000 b q ok) :
    (ok = true ∧ e = 0 ∧ a = b ∧ p = q) ∨ (ok = false ∧ e = 6 ∧ a = 0 ∧ p = 0) :=
  Cy.both (fun i j e => by show stepL _ _ _ _ = stepL _ _ _ _; rw [e]) h1 h2
set_option maxHeartbeats 8000000 in
set_option maxRecDepth 1000000 in
theorem lineCycles_bad (K B S st ra : Int) (ta : Option Addr) (tn tc : Nat) (tz : List Int) (tu : ByteArray) (wa : Option Addr) (wn wc : Nat) (wz : List Int) (f : Int) (w : World) (hL : Tld.Laid w) (hT : Ints.Is w ta tn tz) (hu : tu.size ≤ 9223372036854775807) (hW : Ints.Is w wa wn wz) (hf : wfault K B S st ra tz tu wz = f) (h0 : f ≠ 0) :
    Calls Tryd.prog 4 #[.agg #[.int .i64 K, .int .i64 B, .int .i64 S, .int .i64 st, .int .i64 ra, .slice ta tn tc, .string tu], .slice wa wn wc] w fun e w' => e = .returned (.bool true) ∧ Below w.heap.size w w' := by
  have HL := Lib.hid hL
  have HT := Lib.hid hT
  have HW := Lib.hid hW
  have HF := Lib.hid hf
  have hbd := wfault_bnd (K := K) (B := B) (S := S) (st := st) (ra := ra) (tz := tz) (tu := tu) (wz := wz)
  rw [hf] at hbd
  have e1 : (f != 0) = true := by rw [bne_iff_ne]; exact h0
  clear hL hT hW hf
  have HFA := Lib.hid (fun w2 (h2 : Below w.heap.size w w2) => fault2_any K B S st ra ta tn tc tz tu wa wn wc wz w2 (HT.out.keep h2) hu (HW.out.keep h2))
  rw [HF.out] at HFA
  unfold rulL at HFA
  go_enter Tryd.func4, Tryd.ntmps4
  go_upto_region 1 with fail
  obtain ⟨hR, hB⟩ := row_rule w K B S st ra ta tn tc tu
  have HR : Hid (Row (w.alloc (.cells #[.int .i64 K, .int .i64 B, .int .i64 S, .int .i64 st, .int .i64 ra, .slice ta tn tc, .string tu] 24)) w.heap.size 24 (rulL K B S st ra ta tn tc tu)) := hR
  have HB : Hid (Below w.heap.size w (w.alloc (.cells #[.int .i64 K, .int .i64 B, .int .i64 S, .int .i64 st, .int .i64 ra, .slice ta tn tc, .string tu] 24))) := hB
  clear hR hB
  generalize w.alloc (.cells #[.int .i64 K, .int .i64 B, .int .i64 S, .int .i64 st, .int .i64 ra, .slice ta tn tc, .string tu] 24) = w1 at *
  obtain ⟨b3, hb3⟩ : ∃ b3, b3 = w.heap.size := ⟨_, rfl⟩
  rw [← hb3] at HR ⊢
  clear hb3
  have l3 := row_range HR.out
  go_wp2_with (refine wpList_load_mid rfl 24 _ rfl b3 0 rfl _ _ l3 Tryd.underlying24 rfl infoRule ?_)
  clear l3
  refine (HFA.out _ HB.out).mono ?_
  rintro e0 w2 ⟨rfl, hb9⟩
  have HR := Lib.hid (HR.out.keep hb9 HR.out.lt)
  have HB := Lib.hid (HB.out.trans (hb9.mono HB.out.size))
  clear hb9
  clear HFA
  have l3 := row_range HR.out
  go_wp2_with (refine wpList_load_mid rfl 24 _ rfl b3 0 rfl _ _ l3 Tryd.underlying24 rfl infoRule ?_)
  clear l3
  refine (cycleL_bad K B S st ra ta tn tc tz tu wa wn wc wz f _ (HT.out.keep HB.out) hu (HW.out.keep HB.out) HF.out h0).mono ?_
  rintro e0 w3 ⟨rfl, hb9⟩
  have HR := Lib.hid (HR.out.keep hb9 HR.out.lt)
  have HB := Lib.hid (HB.out.trans (hb9.mono HB.out.size))
  clear hb9
  go_wp2_with fail
  refine (same_iface f _ (HL.out.keep HB.out) hbd h0).mono ?_
  rintro e0 w4 ⟨rfl, hb9⟩
  have HR := Lib.hid (HR.out.keep hb9 HR.out.lt)
  have HB := Lib.hid (HB.out.trans (hb9.mono HB.out.size))
  clear hb9
  go_wp2_with fail
  go_ret
  exact ⟨rfl, HB.out⟩
set_option maxHeartbeats 8000000 in
set_option maxRecDepth 1000000 in
theorem lineCycles_ok (K B S : Int) (st ra : Nat) (ta : Option Addr) (tn tc : Nat) (tz : List Int) (tu : ByteArray) (wa : Option Addr) (wn wc : Nat) (wz : List Int) (w : World) (hL : Tld.Laid w) (hT : Ints.Is w ta tn tz) (hu : tu.size ≤ 9223372036854775807) (hW : Ints.Is w wa wn wz) (hf : wfault K B S st ra tz tu wz = 0) :
    Calls Tryd.prog 4 #[.agg #[.int .i64 K, .int .i64 B, .int .i64 S, .int .i64 st, .int .i64 ra, .slice ta tn tc, .string tu], .slice wa wn wc] w fun e w' => e = .returned (.bool true) ∧ Below w.heap.size w w' := by
  have HL := Lib.hid hL
  have HT := Lib.hid hT
  have HW := Lib.hid hW
  have HF := Lib.hid hf
  obtain ⟨ho, hwn, hz⟩ := wfault_zero hf
  obtain ⟨s, r, hs, hr', h2, h4, hr5, htn, htl, htz⟩ := ho.nat hT.len
  obtain rfl : st = s := by omega
  obtain rfl : ra = r := by omega
  have hwl := hW.len
  rw [hwl] at hwn
  have HZ := Lib.hid hz
  have HRU := Lib.hid (fun w2 (h3 : Below w.heap.size w w2) => (RulIs.keep ⟨hT, h2, h4, hr5, htn, htl, htz⟩ h3 : RulIs w2 st ra ta tn tz))
  clear hL hT hW hf ho hz htz htn hs hr' hwl
  have HFA := Lib.hid (fun w2 (h2 : Below w.heap.size w w2) => fault2_any K B S (st : Nat) (ra : Nat) ta tn tc tz tu wa wn wc wz w2 (HT.out.keep h2) hu (HW.out.keep h2))
  rw [HF.out] at HFA
  unfold rulL at HFA
  go_enter Tryd.func4, Tryd.ntmps4
  go_upto_region 1 with fail
  obtain ⟨hR, hB⟩ := row_rule w K B S (st : Nat) (ra : Nat) ta tn tc tu
  have HR : Hid (Row (w.alloc (.cells #[.int .i64 K, .int .i64 B, .int .i64 S, .int .i64 (st : Nat), .int .i64 (ra : Nat), .slice ta tn tc, .string tu] 24)) w.heap.size 24 (rulL K B S (st : Nat) (ra : Nat) ta tn tc tu)) := hR
  have HB : Hid (Below w.heap.size w (w.alloc (.cells #[.int .i64 K, .int .i64 B, .int .i64 S, .int .i64 (st : Nat), .int .i64 (ra : Nat), .slice ta tn tc, .string tu] 24))) := hB
  clear hR hB
  generalize w.alloc (.cells #[.int .i64 K, .int .i64 B, .int .i64 S, .int .i64 (st : Nat), .int .i64 (ra : Nat), .slice ta tn tc, .string tu] 24) = w1 at *
  obtain ⟨b3, hb3⟩ : ∃ b3, b3 = w.heap.size := ⟨_, rfl⟩
  rw [← hb3] at HR ⊢
  clear hb3
  have l3 := row_range HR.out
  go_wp2_with (refine wpList_load_mid rfl 24 _ rfl b3 0 rfl _ _ l3 Tryd.underlying24 rfl infoRule ?_)
  clear l3
  refine (HFA.out _ HB.out).mono ?_
  rintro e0 w2 ⟨rfl, hb9⟩
  have HR := Lib.hid (HR.out.keep hb9 HR.out.lt)
  have HB := Lib.hid (HB.out.trans (hb9.mono HB.out.size))
  clear hb9
  clear HFA
  have l3 := row_range HR.out
  go_wp2_with (refine wpList_load_mid rfl 24 _ rfl b3 0 rfl _ _ l3 Tryd.underlying24 rfl infoRule ?_)
  clear l3
  refine (cycleL_ok K B S st ra ta tn tc tz tu wa wn wc wz _ (HT.out.keep HB.out) hu (HW.out.keep HB.out) HF.out).mono ?_
  rintro e0 w3 ⟨⟨a, p, f, rfl, hmap⟩, hb9⟩
  have HR := Lib.hid (HR.out.keep hb9 HR.out.lt)
  have HB := Lib.hid (HB.out.trans (hb9.mono HB.out.size))
  clear hb9
  have HMAP := Lib.hid hmap
  clear hmap
  have l3 := row_range HR.out
  go_wp2_with (refine wpList_load_mid rfl 24 _ rfl b3 0 rfl _ _ l3 Tryd.underlying24 rfl infoRule ?_)
  clear l3
  refine (cycle2_any K B S st ra ta tn tc tz tu wa wn wc wz _ (HRU.out _ HB.out) (HW.out.keep HB.out) HZ.out (by omega)).mono ?_
  rintro e0 w4 ⟨⟨b, q, ok, rfl, htwo⟩, hb9⟩
  have HR := Lib.hid (HR.out.keep hb9 HR.out.lt)
  have HB := Lib.hid (HB.out.trans (hb9.mono HB.out.size))
  clear hb9
  rcases cyc_both HMAP.out htwo with ⟨rfl, rfl, rfl, rfl⟩ | ⟨rfl, rfl, rfl, rfl⟩
  · clear htwo HMAP
    rw [errV_zero rfl]
    go_wp2_with fail
    go_ret
    exact ⟨rfl, HB.out⟩
  · clear htwo HMAP
    rw [errV_some (by decide)]
    go_wp2_with fail
    refine (same_iface 6 _ (HL.out.keep HB.out) (by omega) (by decide)).mono ?_
    rintro e0 w5 ⟨rfl, hb9⟩
    have HR := Lib.hid (HR.out.keep hb9 HR.out.lt)
    have HB := Lib.hid (HB.out.trans (hb9.mono HB.out.size))
    clear hb9
    go_wp2_with fail
    go_ret
    exact ⟨rfl, HB.out⟩
theorem lineCycles_any (K B S st ra : Int) (ta : Option Addr) (tn tc : Nat) (tz : List Int) (tu : ByteArray) (wa : Option Addr) (wn wc : Nat) (wz : List Int) (w : World) (hL : Tld.Laid w) (hT : Ints.Is w ta tn tz) (hu : tu.size ≤ 9223372036854775807) (hW : Ints.Is w wa wn wz) :
    Calls Tryd.prog 4 #[.agg #[.int .i64 K, .int .i64 B, .int .i64 S, .int .i64 st, .int .i64 ra, .slice ta tn tc, .string tu], .slice wa wn wc] w fun e w' => e = .returned (.bool true) ∧ Below w.heap.size w w' := by
  by_cases hf : wfault K B S st ra tz tu wz = 0
  · obtain ⟨ho, hn, hz⟩ := wfault_zero hf
    obtain ⟨s, r, rfl, rfl, h2, h4, hr5, htn, htl, htz⟩ := ho.nat hT.len
    exact lineCycles_ok K B S s r ta tn tc tz tu wa wn wc wz w hL hT hu hW hf
  · exact lineCycles_bad K B S st ra ta tn tc tz tu wa wn wc wz _ w hL hT hu hW rfl hf
end Ln
end Go.Proofs.YtgefikkklbjcbaaDoor
