/- THE LAW LineSteps: its walk, out of its callees' contracts. -/
import Derived.Test.YtgefikkklbjcbaaDoorLnFt
import Derived.Test.YtgefikkklbjcbaaDoorLnN
import Derived.Test.YtgefikkklbjcbaaDoorSame
namespace Go.Proofs.YtgefikkklbjcbaaDoor
set_option linter.unusedSimpArgs false
set_option linter.unusedVariables false
open Go.RowKit
namespace Ln
open Tld Mem

theorem ints_same (a b : Option Addr) (n m c d : Nat) (xs ys : List Int) (w : World) (hx : Ints.Is w a n xs) (hy : Ints.Is w b m ys) (e : xs = ys) :
    Calls Tryd.prog 9 #[.slice a n c, .slice b m d] w fun e w' => e = .returned (.bool true) ∧ Below w.heap.size w w' := by
  have h := Ints.ints_any a b n m c d xs ys w hx hy
  rw [decide_eq_true e] at h
  exact h
theorem wfault_bound {K B S st ra : Int} {tz : List Int} {tu : ByteArray} {wz : List Int} : -1000 ≤ wfault K B S st ra tz tu wz ∧ wfault K B S st ra tz tu wz ≤ 1000 := by
  classical
  by_cases h : Ok K B S st ra tz tu
  · rw [wfault_yes h]
    split
    · omega
    · split <;> omega
  · rw [wfault_no h]; omega
theorem step2_is (K B S : Int) (st ra : Nat) (ta : Option Addr) (tn tc : Nat) (tz : List Int) (tu : ByteArray) (wa : Option Addr) (wn wc : Nat) (wz : List Int) (w : World) (h : RulIs w st ra ta tn tz) (hW : Ints.Is w wa wn wz) (hwz : ∀ z ∈ wz, 0 ≤ z ∧ z < (st : Int)) (hwn : wn ≤ 10000) :
    Calls Tryd.prog 22 #[.agg #[.int .i64 K, .int .i64 B, .int .i64 S, .int .i64 st, .int .i64 ra, .slice ta tn tc, .string tu], .slice wa wn wc] w fun e w' => (∃ ao co, e = .returned (.slice ao wn co) ∧ Ints.Is w' ao wn (stepL (wf tz) st ra wz)) ∧ Below w.heap.size w w' := by
  refine (step2_any K B S st ra ta tn tc tz tu wa wn wc wz w h hW hwz hwn).mono ?_
  rintro e w' ⟨⟨v', rfl, hown⟩, hb⟩
  obtain ⟨ao, co, rfl, hco⟩ := own_slice2 hown
  exact ⟨⟨ao, co, rfl, (own_is hown (by unfold stepL; rw [lst_len, hW.len]) (by unfold maxLen; omega)).1⟩, hb⟩
theorem apply2_is (K B S : Int) (st ra : Nat) (ta : Option Addr) (tn tc : Nat) (tz : List Int) (tu : ByteArray) (wa : Option Addr) (wn wc : Nat) (wz : List Int) (w : World) (h : RulIs w st ra ta tn tz) (hW : Ints.Is w wa wn wz) (hwz : ∀ z ∈ wz, 0 ≤ z ∧ z < (st : Int)) (hwn : wn ≤ 10000) :
    Calls Tryd.prog 23 #[.agg #[.int .i64 K, .int .i64 B, .int .i64 S, .int .i64 st, .int .i64 ra, .slice ta tn tc, .string tu], .slice wa wn wc] w fun e w' => (∃ ao co, e = .returned (.slice ao (wn - 2 * ra) co) ∧ Ints.Is w' ao (wn - 2 * ra) (applyL (wf tz) st ra wz)) ∧ Below w.heap.size w w' := by
  refine (apply2_any K B S st ra ta tn tc tz tu wa wn wc wz w h hW hwz hwn).mono ?_
  rintro e w' ⟨⟨v', rfl, hown⟩, hb⟩
  obtain ⟨ao, co, rfl, hco⟩ := own_slice2 hown
  exact ⟨⟨ao, co, rfl, (own_is hown (by unfold applyL; rw [lst_len, hW.len]) (by unfold maxLen; omega)).1⟩, hb⟩
set_option maxHeartbeats 8000000 in
set_option maxRecDepth 1000000 in
theorem lineSteps_bad (K B S st ra : Int) (ta : Option Addr) (tn tc : Nat) (tz : List Int) (tu : ByteArray) (wa : Option Addr) (wn wc : Nat) (wz : List Int) (n f : Int) (w : World) (hL : Tld.Laid w) (hT : Ints.Is w ta tn tz) (hu : tu.size ≤ 9223372036854775807) (hW : Ints.Is w wa wn wz) (hwc : wn ≤ wc) (hnil : wa = none → wn = 0) (hf : wfault K B S st ra tz tu wz = f) (h0 : f ≠ 0) :
    Calls Tryd.prog 6 #[.agg #[.int .i64 K, .int .i64 B, .int .i64 S, .int .i64 st, .int .i64 ra, .slice ta tn tc, .string tu], .slice wa wn wc, .int .i64 n] w fun e w' => e = .returned (.bool true) ∧ Below w.heap.size w w' := by
  have HL := Lib.hid hL
  have HT := Lib.hid hT
  have HW := Lib.hid hW
  have HF := Lib.hid hf
  have hbd := wfault_bound (K := K) (B := B) (S := S) (st := st) (ra := ra) (tz := tz) (tu := tu) (wz := wz)
  rw [hf] at hbd
  have e0 : (f == 0) = false := by rw [beq_eq_false_iff_ne]; exact h0
  have e1 : (f != 0) = true := by rw [bne_iff_ne]; exact h0
  clear hL hT hW hf hnil
  have HFA := Lib.hid (fun w2 (h2 : Below w.heap.size w w2) => fault2_any K B S st ra ta tn tc tz tu wa wn wc wz w2 (HT.out.keep h2) hu (HW.out.keep h2))
  rw [HF.out] at HFA
  unfold rulL at HFA
  go_enter Tryd.func6, Tryd.ntmps6
  go_upto_region 1 with fail
  obtain ⟨hR, hB⟩ := row_rule w K B S st ra ta tn tc tu
  have HR : Hid (Row (w.alloc (.cells #[.int .i64 K, .int .i64 B, .int .i64 S, .int .i64 st, .int .i64 ra, .slice ta tn tc, .string tu] 24)) w.heap.size 24 (rulL K B S st ra ta tn tc tu)) := hR
  have HB : Hid (Below w.heap.size w (w.alloc (.cells #[.int .i64 K, .int .i64 B, .int .i64 S, .int .i64 st, .int .i64 ra, .slice ta tn tc, .string tu] 24))) := hB
  clear hR hB
  generalize w.alloc (.cells #[.int .i64 K, .int .i64 B, .int .i64 S, .int .i64 st, .int .i64 ra, .slice ta tn tc, .string tu] 24) = w1 at *
  obtain ⟨b3, hb3⟩ : ∃ b3, b3 = w.heap.size := ⟨_, rfl⟩
  rw [← hb3] at HR ⊢
  clear hb3
  have l3 := row_range HR.out
  go_wp2_with (refine wpList_load_mid rfl 24 _ rfl b3 0 rfl _ _ l3 Tryd.underlying24 rfl infoRule ?_)
  clear l3
  refine (HFA.out _ HB.out).mono ?_
  rintro e0 w2 ⟨rfl, hb9⟩
  have HR := Lib.hid (HR.out.keep hb9 HR.out.lt)
  have HB := Lib.hid (HB.out.trans (hb9.mono HB.out.size))
  clear hb9
  clear HFA
  have l3 := row_range HR.out
  go_wp2_with (refine wpList_load_mid rfl 24 _ rfl b3 0 rfl _ _ l3 Tryd.underlying24 rfl infoRule ?_)
  clear l3
  refine (stepL_fault K B S st ra ta tn tc tz tu wa wn wc wz f _ (HT.out.keep HB.out) hu (HW.out.keep HB.out) HF.out h0).mono ?_
  rintro e0 w3 ⟨rfl, hb9⟩
  have HR := Lib.hid (HR.out.keep hb9 HR.out.lt)
  have HB := Lib.hid (HB.out.trans (hb9.mono HB.out.size))
  clear hb9
  go_wp2_with fail
  refine (same_iface f _ (HL.out.keep HB.out) hbd h0).mono ?_
  rintro e0 w4 ⟨rfl, hb9⟩
  have HR := Lib.hid (HR.out.keep hb9 HR.out.lt)
  have HB := Lib.hid (HB.out.trans (hb9.mono HB.out.size))
  clear hb9
  have l3 := row_range HR.out
  go_wp2_with (refine wpList_load_mid rfl 24 _ rfl b3 0 rfl _ _ l3 Tryd.underlying24 rfl infoRule ?_)
  clear l3
  refine (applyL_fault K B S st ra ta tn tc tz tu wa wn wc wz f _ (HT.out.keep HB.out) hu (HW.out.keep HB.out) HF.out h0).mono ?_
  rintro e0 w5 ⟨rfl, hb9⟩
  have HR := Lib.hid (HR.out.keep hb9 HR.out.lt)
  have HB := Lib.hid (HB.out.trans (hb9.mono HB.out.size))
  clear hb9
  go_wp2_with fail
  refine (same_iface f _ (HL.out.keep HB.out) hbd h0).mono ?_
  rintro e0 w6 ⟨rfl, hb9⟩
  have HR := Lib.hid (HR.out.keep hb9 HR.out.lt)
  have HB := Lib.hid (HB.out.trans (hb9.mono HB.out.size))
  clear hb9
  have l3 := row_range HR.out
  go_wp2_with (refine wpList_load_mid rfl 24 _ rfl b3 0 rfl _ _ l3 Tryd.underlying24 rfl infoRule ?_)
  clear l3
  refine (runL_fault K B S st ra ta tn tc tz tu wa wn wc wz n f _ (HT.out.keep HB.out) hu (HW.out.keep HB.out) HF.out h0).mono ?_
  rintro e0 w7 ⟨rfl, hb9⟩
  have HR := Lib.hid (HR.out.keep hb9 HR.out.lt)
  have HB := Lib.hid (HB.out.trans (hb9.mono HB.out.size))
  clear hb9
  go_wp2_with fail
  refine (same_iface f _ (HL.out.keep HB.out) hbd h0).mono ?_
  rintro e0 w8 ⟨rfl, hb9⟩
  have HR := Lib.hid (HR.out.keep hb9 HR.out.lt)
  have HB := Lib.hid (HB.out.trans (hb9.mono HB.out.size))
  clear hb9
  go_wp2_with fail
  go_ret
  exact ⟨rfl, HB.out⟩
set_option maxHeartbeats 8000000 in
set_option maxRecDepth 1000000 in
theorem lineSteps_range (K B S : Int) (st ra : Nat) (ta : Option Addr) (tn tc : Nat) (tz : List Int) (tu : ByteArray) (wa : Option Addr) (wn wc : Nat) (wz : List Int) (n : Int) (w : World) (hL : Tld.Laid w) (hT : Ints.Is w ta tn tz) (hu : tu.size ≤ 9223372036854775807) (hW : Ints.Is w wa wn wz) (hwc : wn ≤ wc) (hnil : wa = none → wn = 0) (hf : wfault K B S st ra tz tu wz = 0) (hn : n < 0 ∨ 100000 < n) :
    Calls Tryd.prog 6 #[.agg #[.int .i64 K, .int .i64 B, .int .i64 S, .int .i64 st, .int .i64 ra, .slice ta tn tc, .string tu], .slice wa wn wc, .int .i64 n] w fun e w' => e = .returned (.bool true) ∧ Below w.heap.size w w' := by
  have HL := Lib.hid hL
  have HT := Lib.hid hT
  have HW := Lib.hid hW
  have HF := Lib.hid hf
  obtain ⟨ho, hwn, hz⟩ := wfault_zero hf
  obtain ⟨s, r, hs, hr', h2, h4, hr5, htn, htl, htz⟩ := ho.nat hT.len
  obtain rfl : st = s := by omega
  obtain rfl : ra = r := by omega
  have hwl := hW.len
  rw [hwl] at hwn
  have HZ := Lib.hid hz
  have HRU := Lib.hid (fun w2 (h3 : Below w.heap.size w w2) => (RulIs.keep ⟨hT, h2, h4, hr5, htn, htl, htz⟩ h3 : RulIs w2 st ra ta tn tz))
  have HNIL := Lib.hid hnil
  clear hL hT hW hf hnil ho hz htz htn hs hr' hwl
  by_cases hn0 : n < 0
  · have d0 : decide (n < 0) = true := decide_eq_true hn0
    have HFA := Lib.hid (fun w2 (h2 : Below w.heap.size w w2) => fault2_any K B S (st : Nat) (ra : Nat) ta tn tc tz tu wa wn wc wz w2 (HT.out.keep h2) hu (HW.out.keep h2))
    rw [HF.out] at HFA
    unfold rulL at HFA
    go_enter Tryd.func6, Tryd.ntmps6
    go_upto_region 1 with fail
    obtain ⟨hR, hB⟩ := row_rule w K B S (st : Nat) (ra : Nat) ta tn tc tu
    have HR : Hid (Row (w.alloc (.cells #[.int .i64 K, .int .i64 B, .int .i64 S, .int .i64 (st : Nat), .int .i64 (ra : Nat), .slice ta tn tc, .string tu] 24)) w.heap.size 24 (rulL K B S (st : Nat) (ra : Nat) ta tn tc tu)) := hR
    have HB : Hid (Below w.heap.size w (w.alloc (.cells #[.int .i64 K, .int .i64 B, .int .i64 S, .int .i64 (st : Nat), .int .i64 (ra : Nat), .slice ta tn tc, .string tu] 24))) := hB
    clear hR hB
    generalize w.alloc (.cells #[.int .i64 K, .int .i64 B, .int .i64 S, .int .i64 (st : Nat), .int .i64 (ra : Nat), .slice ta tn tc, .string tu] 24) = w1 at *
    obtain ⟨b3, hb3⟩ : ∃ b3, b3 = w.heap.size := ⟨_, rfl⟩
    rw [← hb3] at HR ⊢
    clear hb3
    have l3 := row_range HR.out
    go_wp2_with (refine wpList_load_mid rfl 24 _ rfl b3 0 rfl _ _ l3 Tryd.underlying24 rfl infoRule ?_)
    clear l3
    refine (HFA.out _ HB.out).mono ?_
    rintro e0 w2 ⟨rfl, hb9⟩
    have HR := Lib.hid (HR.out.keep hb9 HR.out.lt)
    have HB := Lib.hid (HB.out.trans (hb9.mono HB.out.size))
    clear hb9
    clear HFA
    have l3 := row_range HR.out
    go_wp2_with (refine wpList_load_mid rfl 24 _ rfl b3 0 rfl _ _ l3 Tryd.underlying24 rfl infoRule ?_)
    clear l3
    refine (stepL_ok K B S st ra ta tn tc tz tu wa wn wc wz _ (HT.out.keep HB.out) hu (HW.out.keep HB.out) hwc HF.out).mono ?_
    rintro e0 w3 ⟨⟨ax, cx, rfl, hcx, hix, _⟩, hb9⟩
    have HIX := Lib.hid hix
    clear hix
    have HR := Lib.hid (HR.out.keep hb9 HR.out.lt)
    have HB := Lib.hid (HB.out.trans (hb9.mono HB.out.size))
    clear hb9
    go_wp2_with fail
    refine (same_nil _ (HL.out.keep HB.out)).mono ?_
    rintro e0 w4 ⟨rfl, hb9⟩
    have HR := Lib.hid (HR.out.keep hb9 HR.out.lt)
    have HIX := Lib.hid (HIX.out.keep hb9)
    have HB := Lib.hid (HB.out.trans (hb9.mono HB.out.size))
    clear hb9
    have l3 := row_range HR.out
    go_wp2_with (refine wpList_load_mid rfl 24 _ rfl b3 0 rfl _ _ l3 Tryd.underlying24 rfl infoRule ?_)
    clear l3
    refine (applyL_ok K B S st ra ta tn tc tz tu wa wn wc wz _ (HT.out.keep HB.out) hu (HW.out.keep HB.out) hwc HF.out).mono ?_
    rintro e0 w5 ⟨⟨ay, cy, rfl, hcy, hiy, _⟩, hb9⟩
    have HIY := Lib.hid hiy
    clear hiy
    have HR := Lib.hid (HR.out.keep hb9 HR.out.lt)
    have HIX := Lib.hid (HIX.out.keep hb9)
    have HB := Lib.hid (HB.out.trans (hb9.mono HB.out.size))
    clear hb9
    go_wp2_with fail
    refine (same_nil _ (HL.out.keep HB.out)).mono ?_
    rintro e0 w6 ⟨rfl, hb9⟩
    have HR := Lib.hid (HR.out.keep hb9 HR.out.lt)
    have HIX := Lib.hid (HIX.out.keep hb9)
    have HIY := Lib.hid (HIY.out.keep hb9)
    have HB := Lib.hid (HB.out.trans (hb9.mono HB.out.size))
    clear hb9
    have l3 := row_range HR.out
    go_wp2_with (refine wpList_load_mid rfl 24 _ rfl b3 0 rfl _ _ l3 Tryd.underlying24 rfl infoRule ?_)
    clear l3
    refine (runL_range K B S st ra ta tn tc tz tu wa wn wc wz n _ (HT.out.keep HB.out) hu (HW.out.keep HB.out) HF.out hn).mono ?_
    rintro e0 w7 ⟨rfl, hb9⟩
    have HR := Lib.hid (HR.out.keep hb9 HR.out.lt)
    have HIX := Lib.hid (HIX.out.keep hb9)
    have HIY := Lib.hid (HIY.out.keep hb9)
    have HB := Lib.hid (HB.out.trans (hb9.mono HB.out.size))
    clear hb9
    go_wp2_with fail
    refine (same_iface 1 _ (HL.out.keep HB.out) (by omega) (by decide)).mono ?_
    rintro e0 w8 ⟨rfl, hb9⟩
    have HR := Lib.hid (HR.out.keep hb9 HR.out.lt)
    have HIX := Lib.hid (HIX.out.keep hb9)
    have HIY := Lib.hid (HIY.out.keep hb9)
    have HB := Lib.hid (HB.out.trans (hb9.mono HB.out.size))
    clear hb9
    have l3 := row_range HR.out
    go_wp2_with (refine wpList_load_mid rfl 24 _ rfl b3 0 rfl _ _ l3 Tryd.underlying24 rfl infoRule ?_)
    clear l3
    refine (step2_is K B S st ra ta tn tc tz tu wa wn wc wz _ (HRU.out _ HB.out) (HW.out.keep HB.out) HZ.out (by omega)).mono ?_
    rintro e0 w9 ⟨⟨au, cu, rfl, hiu⟩, hb9⟩
    have HIU := Lib.hid hiu
    clear hiu
    have HR := Lib.hid (HR.out.keep hb9 HR.out.lt)
    have HIX := Lib.hid (HIX.out.keep hb9)
    have HIY := Lib.hid (HIY.out.keep hb9)
    have HB := Lib.hid (HB.out.trans (hb9.mono HB.out.size))
    clear hb9
    have l3 := row_range HR.out
    go_wp2_with (refine wpList_load_mid rfl 24 _ rfl b3 0 rfl _ _ l3 Tryd.underlying24 rfl infoRule ?_)
    clear l3
    refine (apply2_is K B S st ra ta tn tc tz tu wa wn wc wz _ (HRU.out _ HB.out) (HW.out.keep HB.out) HZ.out (by omega)).mono ?_
    rintro e0 w10 ⟨⟨av, cv, rfl, hiv⟩, hb9⟩
    have HIV := Lib.hid hiv
    clear hiv
    have HR := Lib.hid (HR.out.keep hb9 HR.out.lt)
    have HIX := Lib.hid (HIX.out.keep hb9)
    have HIY := Lib.hid (HIY.out.keep hb9)
    have HIU := Lib.hid (HIU.out.keep hb9)
    have HB := Lib.hid (HB.out.trans (hb9.mono HB.out.size))
    clear hb9
    go_wp2_with fail
    refine (ints_same ax au _ _ cx cu _ _ _ HIX.out HIU.out rfl).mono ?_
    rintro e0 w11 ⟨rfl, hb9⟩
    have HR := Lib.hid (HR.out.keep hb9 HR.out.lt)
    have HIX := Lib.hid (HIX.out.keep hb9)
    have HIY := Lib.hid (HIY.out.keep hb9)
    have HIU := Lib.hid (HIU.out.keep hb9)
    have HIV := Lib.hid (HIV.out.keep hb9)
    have HB := Lib.hid (HB.out.trans (hb9.mono HB.out.size))
    clear hb9
    go_wp2_with fail
    refine (ints_same ay av _ _ cy cv _ _ _ HIY.out HIV.out rfl).mono ?_
    rintro e0 w12 ⟨rfl, hb9⟩
    have HR := Lib.hid (HR.out.keep hb9 HR.out.lt)
    have HIX := Lib.hid (HIX.out.keep hb9)
    have HIY := Lib.hid (HIY.out.keep hb9)
    have HIU := Lib.hid (HIU.out.keep hb9)
    have HIV := Lib.hid (HIV.out.keep hb9)
    have HB := Lib.hid (HB.out.trans (hb9.mono HB.out.size))
    clear hb9
    go_wp2_with fail
    go_ret
    exact ⟨rfl, HB.out⟩
  · have d0 : decide (n < 0) = false := decide_eq_false hn0
    have hn1 : 100000 < n := by omega
    have d1 : decide (100000 < n) = true := decide_eq_true hn1
    have HFA := Lib.hid (fun w2 (h2 : Below w.heap.size w w2) => fault2_any K B S (st : Nat) (ra : Nat) ta tn tc tz tu wa wn wc wz w2 (HT.out.keep h2) hu (HW.out.keep h2))
    rw [HF.out] at HFA
    unfold rulL at HFA
    go_enter Tryd.func6, Tryd.ntmps6
    go_upto_region 1 with fail
    obtain ⟨hR, hB⟩ := row_rule w K B S (st : Nat) (ra : Nat) ta tn tc tu
    have HR : Hid (Row (w.alloc (.cells #[.int .i64 K, .int .i64 B, .int .i64 S, .int .i64 (st : Nat), .int .i64 (ra : Nat), .slice ta tn tc, .string tu] 24)) w.heap.size 24 (rulL K B S (st : Nat) (ra : Nat) ta tn tc tu)) := hR
    have HB : Hid (Below w.heap.size w (w.alloc (.cells #[.int .i64 K, .int .i64 B, .int .i64 S, .int .i64 (st : Nat), .int .i64 (ra : Nat), .slice ta tn tc, .string tu] 24))) := hB
    clear hR hB
    generalize w.alloc (.cells #[.int .i64 K, .int .i64 B, .int .i64 S, .int .i64 (st : Nat), .int .i64 (ra : Nat), .slice ta tn tc, .string tu] 24) = w1 at *
    obtain ⟨b3, hb3⟩ : ∃ b3, b3 = w.heap.size := ⟨_, rfl⟩
    rw [← hb3] at HR ⊢
    clear hb3
    have l3 := row_range HR.out
    go_wp2_with (refine wpList_load_mid rfl 24 _ rfl b3 0 rfl _ _ l3 Tryd.underlying24 rfl infoRule ?_)
    clear l3
    refine (HFA.out _ HB.out).mono ?_
    rintro e0 w2 ⟨rfl, hb9⟩
    have HR := Lib.hid (HR.out.keep hb9 HR.out.lt)
    have HB := Lib.hid (HB.out.trans (hb9.mono HB.out.size))
    clear hb9
    clear HFA
    have l3 := row_range HR.out
    go_wp2_with (refine wpList_load_mid rfl 24 _ rfl b3 0 rfl _ _ l3 Tryd.underlying24 rfl infoRule ?_)
    clear l3
    refine (stepL_ok K B S st ra ta tn tc tz tu wa wn wc wz _ (HT.out.keep HB.out) hu (HW.out.keep HB.out) hwc HF.out).mono ?_
    rintro e0 w3 ⟨⟨ax, cx, rfl, hcx, hix, _⟩, hb9⟩
    have HIX := Lib.hid hix
    clear hix
    have HR := Lib.hid (HR.out.keep hb9 HR.out.lt)
    have HB := Lib.hid (HB.out.trans (hb9.mono HB.out.size))
    clear hb9
    go_wp2_with fail
    refine (same_nil _ (HL.out.keep HB.out)).mono ?_
    rintro e0 w4 ⟨rfl, hb9⟩
    have HR := Lib.hid (HR.out.keep hb9 HR.out.lt)
    have HIX := Lib.hid (HIX.out.keep hb9)
    have HB := Lib.hid (HB.out.trans (hb9.mono HB.out.size))
    clear hb9
    have l3 := row_range HR.out
    go_wp2_with (refine wpList_load_mid rfl 24 _ rfl b3 0 rfl _ _ l3 Tryd.underlying24 rfl infoRule ?_)
    clear l3
    refine (applyL_ok K B S st ra ta tn tc tz tu wa wn wc wz _ (HT.out.keep HB.out) hu (HW.out.keep HB.out) hwc HF.out).mono ?_
    rintro e0 w5 ⟨⟨ay, cy, rfl, hcy, hiy, _⟩, hb9⟩
    have HIY := Lib.hid hiy
    clear hiy
    have HR := Lib.hid (HR.out.keep hb9 HR.out.lt)
    have HIX := Lib.hid (HIX.out.keep hb9)
    have HB := Lib.hid (HB.out.trans (hb9.mono HB.out.size))
    clear hb9
    go_wp2_with fail
    refine (same_nil _ (HL.out.keep HB.out)).mono ?_
    rintro e0 w6 ⟨rfl, hb9⟩
    have HR := Lib.hid (HR.out.keep hb9 HR.out.lt)
    have HIX := Lib.hid (HIX.out.keep hb9)
    have HIY := Lib.hid (HIY.out.keep hb9)
    have HB := Lib.hid (HB.out.trans (hb9.mono HB.out.size))
    clear hb9
    have l3 := row_range HR.out
    go_wp2_with (refine wpList_load_mid rfl 24 _ rfl b3 0 rfl _ _ l3 Tryd.underlying24 rfl infoRule ?_)
    clear l3
    refine (runL_range K B S st ra ta tn tc tz tu wa wn wc wz n _ (HT.out.keep HB.out) hu (HW.out.keep HB.out) HF.out hn).mono ?_
    rintro e0 w7 ⟨rfl, hb9⟩
    have HR := Lib.hid (HR.out.keep hb9 HR.out.lt)
    have HIX := Lib.hid (HIX.out.keep hb9)
    have HIY := Lib.hid (HIY.out.keep hb9)
    have HB := Lib.hid (HB.out.trans (hb9.mono HB.out.size))
    clear hb9
    go_wp2_with fail
    refine (same_iface 1 _ (HL.out.keep HB.out) (by omega) (by decide)).mono ?_
    rintro e0 w8 ⟨rfl, hb9⟩
    have HR := Lib.hid (HR.out.keep hb9 HR.out.lt)
    have HIX := Lib.hid (HIX.out.keep hb9)
    have HIY := Lib.hid (HIY.out.keep hb9)
    have HB := Lib.hid (HB.out.trans (hb9.mono HB.out.size))
    clear hb9
    have l3 := row_range HR.out
    go_wp2_with (refine wpList_load_mid rfl 24 _ rfl b3 0 rfl _ _ l3 Tryd.underlying24 rfl infoRule ?_)
    clear l3
    refine (step2_is K B S st ra ta tn tc tz tu wa wn wc wz _ (HRU.out _ HB.out) (HW.out.keep HB.out) HZ.out (by omega)).mono ?_
    rintro e0 w9 ⟨⟨au, cu, rfl, hiu⟩, hb9⟩
    have HIU := Lib.hid hiu
    clear hiu
    have HR := Lib.hid (HR.out.keep hb9 HR.out.lt)
    have HIX := Lib.hid (HIX.out.keep hb9)
    have HIY := Lib.hid (HIY.out.keep hb9)
    have HB := Lib.hid (HB.out.trans (hb9.mono HB.out.size))
    clear hb9
    have l3 := row_range HR.out
    go_wp2_with (refine wpList_load_mid rfl 24 _ rfl b3 0 rfl _ _ l3 Tryd.underlying24 rfl infoRule ?_)
    clear l3
    refine (apply2_is K B S st ra ta tn tc tz tu wa wn wc wz _ (HRU.out _ HB.out) (HW.out.keep HB.out) HZ.out (by omega)).mono ?_
    rintro e0 w10 ⟨⟨av, cv, rfl, hiv⟩, hb9⟩
    have HIV := Lib.hid hiv
    clear hiv
    have HR := Lib.hid (HR.out.keep hb9 HR.out.lt)
    have HIX := Lib.hid (HIX.out.keep hb9)
    have HIY := Lib.hid (HIY.out.keep hb9)
    have HIU := Lib.hid (HIU.out.keep hb9)
    have HB := Lib.hid (HB.out.trans (hb9.mono HB.out.size))
    clear hb9
    go_wp2_with fail
    refine (ints_same ax au _ _ cx cu _ _ _ HIX.out HIU.out rfl).mono ?_
    rintro e0 w11 ⟨rfl, hb9⟩
    have HR := Lib.hid (HR.out.keep hb9 HR.out.lt)
    have HIX := Lib.hid (HIX.out.keep hb9)
    have HIY := Lib.hid (HIY.out.keep hb9)
    have HIU := Lib.hid (HIU.out.keep hb9)
    have HIV := Lib.hid (HIV.out.keep hb9)
    have HB := Lib.hid (HB.out.trans (hb9.mono HB.out.size))
    clear hb9
    go_wp2_with fail
    refine (ints_same ay av _ _ cy cv _ _ _ HIY.out HIV.out rfl).mono ?_
    rintro e0 w12 ⟨rfl, hb9⟩
    have HR := Lib.hid (HR.out.keep hb9 HR.out.lt)
    have HIX := Lib.hid (HIX.out.keep hb9)
    have HIY := Lib.hid (HIY.out.keep hb9)
    have HIU := Lib.hid (HIU.out.keep hb9)
    have HIV := Lib.hid (HIV.out.keep hb9)
    have HB := Lib.hid (HB.out.trans (hb9.mono HB.out.size))
    clear hb9
    go_wp2_with fail
    go_ret
    exact ⟨rfl, HB.out⟩
set_option maxHeartbeats 8000000 in
set_option maxRecDepth 1000000 in
theorem lineSteps_ok (K B S : Int) (st ra : Nat) (ta : Option Addr) (tn tc : Nat) (tz : List Int) (tu : ByteArray) (wa : Option Addr) (wn wc : Nat) (wz : List Int) (n : Nat) (w : World) (hL : Tld.Laid w) (hT : Ints.Is w ta tn tz) (hu : tu.size ≤ 9223372036854775807) (hW : Ints.Is w wa wn wz) (hwc : wn ≤ wc) (hnil : wa = none → wn = 0) (hf : wfault K B S st ra tz tu wz = 0) (hn : n ≤ 100000) :
    Calls Tryd.prog 6 #[.agg #[.int .i64 K, .int .i64 B, .int .i64 S, .int .i64 st, .int .i64 ra, .slice ta tn tc, .string tu], .slice wa wn wc, .int .i64 n] w fun e w' => e = .returned (.bool true) ∧ Below w.heap.size w w' := by
  have HL := Lib.hid hL
  have HT := Lib.hid hT
  have HW := Lib.hid hW
  have HF := Lib.hid hf
  obtain ⟨ho, hwn, hz⟩ := wfault_zero hf
  obtain ⟨s, r, hs, hr', h2, h4, hr5, htn, htl, htz⟩ := ho.nat hT.len
  obtain rfl : st = s := by omega
  obtain rfl : ra = r := by omega
  have hwl := hW.len
  rw [hwl] at hwn
  have HZ := Lib.hid hz
  have HRU := Lib.hid (fun w2 (h3 : Below w.heap.size w w2) => (RulIs.keep ⟨hT, h2, h4, hr5, htn, htl, htz⟩ h3 : RulIs w2 st ra ta tn tz))
  have HNIL := Lib.hid hnil
  clear hL hT hW hf hnil ho hz htz htn hs hr' hwl
  have d0 : decide ((n : Int) < 0) = false := decide_eq_false (by omega)
  have d1 : decide ((100000 : Int) < (n : Int)) = false := decide_eq_false (by omega)
  have HFA := Lib.hid (fun w2 (h2 : Below w.heap.size w w2) => fault2_any K B S (st : Nat) (ra : Nat) ta tn tc tz tu wa wn wc wz w2 (HT.out.keep h2) hu (HW.out.keep h2))
  rw [HF.out] at HFA
  unfold rulL at HFA
  go_enter Tryd.func6, Tryd.ntmps6
  go_upto_region 1 with fail
  obtain ⟨hR, hB⟩ := row_rule w K B S (st : Nat) (ra : Nat) ta tn tc tu
  have HR : Hid (Row (w.alloc (.cells #[.int .i64 K, .int .i64 B, .int .i64 S, .int .i64 (st : Nat), .int .i64 (ra : Nat), .slice ta tn tc, .string tu] 24)) w.heap.size 24 (rulL K B S (st : Nat) (ra : Nat) ta tn tc tu)) := hR
  have HB : Hid (Below w.heap.size w (w.alloc (.cells #[.int .i64 K, .int .i64 B, .int .i64 S, .int .i64 (st : Nat), .int .i64 (ra : Nat), .slice ta tn tc, .string tu] 24))) := hB
  clear hR hB
  generalize w.alloc (.cells #[.int .i64 K, .int .i64 B, .int .i64 S, .int .i64 (st : Nat), .int .i64 (ra : Nat), .slice ta tn tc, .string tu] 24) = w1 at *
  obtain ⟨b3, hb3⟩ : ∃ b3, b3 = w.heap.size := ⟨_, rfl⟩
  rw [← hb3] at HR ⊢
  clear hb3
  have l3 := row_range HR.out
  go_wp2_with (refine wpList_load_mid rfl 24 _ rfl b3 0 rfl _ _ l3 Tryd.underlying24 rfl infoRule ?_)
  clear l3
  refine (HFA.out _ HB.out).mono ?_
  rintro e0 w2 ⟨rfl, hb9⟩
  have HR := Lib.hid (HR.out.keep hb9 HR.out.lt)
  have HB := Lib.hid (HB.out.trans (hb9.mono HB.out.size))
  clear hb9
  clear HFA
  have l3 := row_range HR.out
  go_wp2_with (refine wpList_load_mid rfl 24 _ rfl b3 0 rfl _ _ l3 Tryd.underlying24 rfl infoRule ?_)
  clear l3
  refine (stepL_ok K B S st ra ta tn tc tz tu wa wn wc wz _ (HT.out.keep HB.out) hu (HW.out.keep HB.out) hwc HF.out).mono ?_
  rintro e0 w3 ⟨⟨ax, cx, rfl, hcx, hix, _⟩, hb9⟩
  have HIX := Lib.hid hix
  clear hix
  have HR := Lib.hid (HR.out.keep hb9 HR.out.lt)
  have HB := Lib.hid (HB.out.trans (hb9.mono HB.out.size))
  clear hb9
  go_wp2_with fail
  refine (same_nil _ (HL.out.keep HB.out)).mono ?_
  rintro e0 w4 ⟨rfl, hb9⟩
  have HR := Lib.hid (HR.out.keep hb9 HR.out.lt)
  have HIX := Lib.hid (HIX.out.keep hb9)
  have HB := Lib.hid (HB.out.trans (hb9.mono HB.out.size))
  clear hb9
  have l3 := row_range HR.out
  go_wp2_with (refine wpList_load_mid rfl 24 _ rfl b3 0 rfl _ _ l3 Tryd.underlying24 rfl infoRule ?_)
  clear l3
  refine (applyL_ok K B S st ra ta tn tc tz tu wa wn wc wz _ (HT.out.keep HB.out) hu (HW.out.keep HB.out) hwc HF.out).mono ?_
  rintro e0 w5 ⟨⟨ay, cy, rfl, hcy, hiy, _⟩, hb9⟩
  have HIY := Lib.hid hiy
  clear hiy
  have HR := Lib.hid (HR.out.keep hb9 HR.out.lt)
  have HIX := Lib.hid (HIX.out.keep hb9)
  have HB := Lib.hid (HB.out.trans (hb9.mono HB.out.size))
  clear hb9
  go_wp2_with fail
  refine (same_nil _ (HL.out.keep HB.out)).mono ?_
  rintro e0 w6 ⟨rfl, hb9⟩
  have HR := Lib.hid (HR.out.keep hb9 HR.out.lt)
  have HIX := Lib.hid (HIX.out.keep hb9)
  have HIY := Lib.hid (HIY.out.keep hb9)
  have HB := Lib.hid (HB.out.trans (hb9.mono HB.out.size))
  clear hb9
  have l3 := row_range HR.out
  go_wp2_with (refine wpList_load_mid rfl 24 _ rfl b3 0 rfl _ _ l3 Tryd.underlying24 rfl infoRule ?_)
  clear l3
  refine (runL_ok K B S st ra ta tn tc tz tu wa wn wc wz n _ (HT.out.keep HB.out) hu (HW.out.keep HB.out) hwc HNIL.out HF.out hn).mono ?_
  rintro e0 w7 ⟨⟨az, cz, rfl, hiz⟩, hb9⟩
  have HIZ := Lib.hid hiz
  clear hiz
  have HR := Lib.hid (HR.out.keep hb9 HR.out.lt)
  have HIX := Lib.hid (HIX.out.keep hb9)
  have HIY := Lib.hid (HIY.out.keep hb9)
  have HB := Lib.hid (HB.out.trans (hb9.mono HB.out.size))
  clear hb9
  go_wp2_with fail
  refine (same_nil _ (HL.out.keep HB.out)).mono ?_
  rintro e0 w8 ⟨rfl, hb9⟩
  have HR := Lib.hid (HR.out.keep hb9 HR.out.lt)
  have HIX := Lib.hid (HIX.out.keep hb9)
  have HIY := Lib.hid (HIY.out.keep hb9)
  have HIZ := Lib.hid (HIZ.out.keep hb9)
  have HB := Lib.hid (HB.out.trans (hb9.mono HB.out.size))
  clear hb9
  have l3 := row_range HR.out
  go_wp2_with (refine wpList_load_mid rfl 24 _ rfl b3 0 rfl _ _ l3 Tryd.underlying24 rfl infoRule ?_)
  clear l3
  refine (step2_is K B S st ra ta tn tc tz tu wa wn wc wz _ (HRU.out _ HB.out) (HW.out.keep HB.out) HZ.out (by omega)).mono ?_
  rintro e0 w9 ⟨⟨au, cu, rfl, hiu⟩, hb9⟩
  have HIU := Lib.hid hiu
  clear hiu
  have HR := Lib.hid (HR.out.keep hb9 HR.out.lt)
  have HIX := Lib.hid (HIX.out.keep hb9)
  have HIY := Lib.hid (HIY.out.keep hb9)
  have HIZ := Lib.hid (HIZ.out.keep hb9)
  have HB := Lib.hid (HB.out.trans (hb9.mono HB.out.size))
  clear hb9
  have l3 := row_range HR.out
  go_wp2_with (refine wpList_load_mid rfl 24 _ rfl b3 0 rfl _ _ l3 Tryd.underlying24 rfl infoRule ?_)
  clear l3
  refine (apply2_is K B S st ra ta tn tc tz tu wa wn wc wz _ (HRU.out _ HB.out) (HW.out.keep HB.out) HZ.out (by omega)).mono ?_
  rintro e0 w10 ⟨⟨av, cv, rfl, hiv⟩, hb9⟩
  have HIV := Lib.hid hiv
  clear hiv
  have HR := Lib.hid (HR.out.keep hb9 HR.out.lt)
  have HIX := Lib.hid (HIX.out.keep hb9)
  have HIY := Lib.hid (HIY.out.keep hb9)
  have HIZ := Lib.hid (HIZ.out.keep hb9)
  have HIU := Lib.hid (HIU.out.keep hb9)
  have HB := Lib.hid (HB.out.trans (hb9.mono HB.out.size))
  clear hb9
  go_wp2_with fail
  refine (ints_same ax au _ _ cx cu _ _ _ HIX.out HIU.out rfl).mono ?_
  rintro e0 w11 ⟨rfl, hb9⟩
  have HR := Lib.hid (HR.out.keep hb9 HR.out.lt)
  have HIX := Lib.hid (HIX.out.keep hb9)
  have HIY := Lib.hid (HIY.out.keep hb9)
  have HIZ := Lib.hid (HIZ.out.keep hb9)
  have HIU := Lib.hid (HIU.out.keep hb9)
  have HIV := Lib.hid (HIV.out.keep hb9)
  have HB := Lib.hid (HB.out.trans (hb9.mono HB.out.size))
  clear hb9
  go_wp2_with fail
  refine (ints_same ay av _ _ cy cv _ _ _ HIY.out HIV.out rfl).mono ?_
  rintro e0 w12 ⟨rfl, hb9⟩
  have HR := Lib.hid (HR.out.keep hb9 HR.out.lt)
  have HIX := Lib.hid (HIX.out.keep hb9)
  have HIY := Lib.hid (HIY.out.keep hb9)
  have HIZ := Lib.hid (HIZ.out.keep hb9)
  have HIU := Lib.hid (HIU.out.keep hb9)
  have HIV := Lib.hid (HIV.out.keep hb9)
  have HB := Lib.hid (HB.out.trans (hb9.mono HB.out.size))
  clear hb9
  have l3 := row_range HR.out
  go_wp2_with (refine wpList_load_mid rfl 24 _ rfl b3 0 rfl _ _ l3 Tryd.underlying24 rfl infoRule ?_)
  clear l3
  refine (run2_any K B S st ra ta tn tc tz tu wa wn wc wz n _ (HRU.out _ HB.out) (HW.out.keep HB.out) HZ.out (by omega) hn).mono ?_
  rintro e0 w13 ⟨⟨at', ct, rfl, hit⟩, hb9⟩
  have HIT := Lib.hid hit
  clear hit
  have HR := Lib.hid (HR.out.keep hb9 HR.out.lt)
  have HIX := Lib.hid (HIX.out.keep hb9)
  have HIY := Lib.hid (HIY.out.keep hb9)
  have HIZ := Lib.hid (HIZ.out.keep hb9)
  have HIU := Lib.hid (HIU.out.keep hb9)
  have HIV := Lib.hid (HIV.out.keep hb9)
  have HB := Lib.hid (HB.out.trans (hb9.mono HB.out.size))
  clear hb9
  go_wp2_with fail
  refine (ints_same az at' _ _ cz ct _ _ _ HIZ.out HIT.out rfl).mono ?_
  rintro e0 w14 ⟨rfl, hb9⟩
  have HR := Lib.hid (HR.out.keep hb9 HR.out.lt)
  have HIX := Lib.hid (HIX.out.keep hb9)
  have HIY := Lib.hid (HIY.out.keep hb9)
  have HIZ := Lib.hid (HIZ.out.keep hb9)
  have HIU := Lib.hid (HIU.out.keep hb9)
  have HIV := Lib.hid (HIV.out.keep hb9)
  have HIT := Lib.hid (HIT.out.keep hb9)
  have HB := Lib.hid (HB.out.trans (hb9.mono HB.out.size))
  clear hb9
  go_wp2_with fail
  go_ret
  exact ⟨rfl, HB.out⟩
theorem lineSteps_any (K B S st ra : Int) (ta : Option Addr) (tn tc : Nat) (tz : List Int) (tu : ByteArray) (wa : Option Addr) (wn wc : Nat) (wz : List Int) (n : Int) (w : World) (hL : Tld.Laid w) (hT : Ints.Is w ta tn tz) (hu : tu.size ≤ 9223372036854775807) (hW : Ints.Is w wa wn wz) (hwc : wn ≤ wc) (hnil : wa = none → wn = 0) :
    Calls Tryd.prog 6 #[.agg #[.int .i64 K, .int .i64 B, .int .i64 S, .int .i64 st, .int .i64 ra, .slice ta tn tc, .string tu], .slice wa wn wc, .int .i64 n] w fun e w' => e = .returned (.bool true) ∧ Below w.heap.size w w' := by
  by_cases hf : wfault K B S st ra tz tu wz = 0
  · obtain ⟨ho, hn, hz⟩ := wfault_zero hf
    obtain ⟨s, r, rfl, rfl, h2, h4, hr5, htn, htl, htz⟩ := ho.nat hT.len
    by_cases hr : n < 0 ∨ 100000 < n
    · exact lineSteps_range K B S s r ta tn tc tz tu wa wn wc wz n w hL hT hu hW hwc hnil hf hr
    · obtain ⟨m, rfl⟩ := Int.eq_ofNat_of_zero_le (show 0 ≤ n by omega)
      exact lineSteps_ok K B S s r ta tn tc tz tu wa wn wc wz m w hL hT hu hW hwc hnil hf (by omega)
  · exact lineSteps_bad K B S st ra ta tn tc tz tu wa wn wc wz n _ w hL hT hu hW hwc hnil rfl hf
end Ln
end Go.Proofs.YtgefikkklbjcbaaDoor
