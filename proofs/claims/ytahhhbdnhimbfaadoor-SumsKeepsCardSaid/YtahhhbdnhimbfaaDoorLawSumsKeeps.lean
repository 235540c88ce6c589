/- THE LAW SumsKeeps: its walk, out of its callees' contracts. -/
import Derived.Test.YtahhhbdnhimbfaaDoorSmK
namespace Go.Proofs.YtahhhbdnhimbfaaDoor
set_option linter.unusedSimpArgs false
set_option linter.unusedVariables false
open Go.RowKit
namespace Ln
open Tld Mem Sm

/-- Weights that a rule keeps. -/
structure KeptR (st ra : Int) (tz : List Int) (sn : Nat) (sz : List Int) : Prop where
  ok : ∃ s r : Nat, st = s ∧ ra = r ∧ sn = s ∧ 2 ≤ s ∧ (∀ z ∈ tz, 0 ≤ z ∧ z < (s : Int)) ∧ (∀ i, -1000 ≤ sz.getD i 0 ∧ sz.getD i 0 ≤ 1000) ∧ KeptW (fun s => sz.getD s 0) (wf tz) s (2 * r + 1)
theorem keeps_any (K B S st ra : Int) (ta : Option Addr) (tn tc : Nat) (tz : List Int) (tu : ByteArray) (sa : Option Addr) (sn sc : Nat) (sz : List Int) (w : World) (hT : Ints.Is w ta tn tz) (hu : tu.size ≤ 9223372036854775807) (hS : Ints.Is w sa sn sz) :
    Calls Tryd.prog 6 #[.agg #[.int .i64 K, .int .i64 B, .int .i64 S, .int .i64 st, .int .i64 ra, .slice ta tn tc, .string tu], .slice sa sn sc] w fun e w' => (∃ (k : Bool) (f : Int), e = .returned (.tuple #[.bool k, errV f]) ∧ (f = 0 → k = true → KeptR st ra tz sn sz)) ∧ Below w.heap.size w w' := by
  classical
  by_cases ho : Ok K B S st ra tz tu
  · have ha := lfault_ok ho
    obtain ⟨s, r, rfl, rfl, h2, h4, hr5, htn, htl, htz⟩ := ho.nat hT.len
    by_cases hs : sn = s
    · cases hof : sz.any offW with
      | true =>
        refine (keeps_bad3 K B S s r ta tn tc tz tu sa sn sc sz w hT hu hS ha hs hof).mono ?_
        rintro e w' ⟨rfl, hb⟩
        exact ⟨⟨false, 1, by rw [errV_some (by decide)], fun h => by cases h⟩, hb⟩
      | false =>
        have hwb : ∀ i, -1000 ≤ sz.getD i 0 ∧ sz.getD i 0 ≤ 1000 := fun i => by
          rcases Nat.lt_or_ge i sz.length with h | h
          · have h1 := (List.any_eq_false.1 hof) _ (int_mem h)
            unfold offW at h1
            simp only [decide_eq_true_eq] at h1
            omega
          · rw [List.getD_eq_getElem?_getD, List.getElem?_eq_none h]
            simp
        refine (keeps_ok K B S s r ta tn tc tz tu sa sn sc sz w hT hu hS ha hs hof (decide (KeptW (fun s => sz.getD s 0) (wf tz) s (2 * r + 1))) decide_eq_true_iff).mono ?_
        rintro e w' ⟨rfl, hb⟩
        refine ⟨⟨_, 0, by rw [errV_zero rfl], fun _ hk => ⟨s, r, rfl, rfl, hs, h2, htz, hwb, of_decide_eq_true hk⟩⟩, hb⟩
    · refine (keeps_bad2 K B S s r ta tn tc tz tu sa sn sc sz w hT hu hS ha hs).mono ?_
      rintro e w' ⟨rfl, hb⟩
      exact ⟨⟨false, 3, by rw [errV_some (by decide)], fun h => by cases h⟩, hb⟩
  · refine (keeps_bad1 K B S st ra ta tn tc tz tu sa sn sc sz w hT hu hS (lfault_no ho)).mono ?_
    rintro e w' ⟨rfl, hb⟩
    exact ⟨⟨false, 1, by rw [errV_some (by decide)], fun h => by cases h⟩, hb⟩
theorem stepK_any (K B S st ra : Int) (ta : Option Addr) (tn tc : Nat) (tz : List Int) (tu : ByteArray) (wa : Option Addr) (wn wc : Nat) (wz : List Int) (w : World) (hT : Ints.Is w ta tn tz) (hu : tu.size ≤ 9223372036854775807) (hW : Ints.Is w wa wn wz) (hwc : wn ≤ wc) :
    Calls Tryd.prog 7 #[.agg #[.int .i64 K, .int .i64 B, .int .i64 S, .int .i64 st, .int .i64 ra, .slice ta tn tc, .string tu], .slice wa wn wc] w fun e w' => (∃ (ax : Option Addr) (xn cx : Nat) (f : Int), e = .returned (.tuple #[.slice ax xn cx, errV f]) ∧ (f = 0 → xn = wn ∧ wn ≤ 1000 ∧ (∀ z ∈ wz, 0 ≤ z ∧ z < st) ∧ ∀ s r : Nat, st = s → ra = r → Ints.Is w' ax xn (stepL (wf tz) s r wz))) ∧ Below w.heap.size w w' := by
  by_cases hf : wfault K B S st ra tz tu wz = 0
  · obtain ⟨ho, hn, hz⟩ := wfault_zero hf
    obtain ⟨s, r, rfl, rfl, h2, h4, hr5, htn, htl, htz⟩ := ho.nat hT.len
    refine (stepL_ok K B S s r ta tn tc tz tu wa wn wc wz w hT hu hW hwc hf).mono ?_
    rintro e w' ⟨⟨ax, cx, rfl, _, hI, _⟩, hb⟩
    refine ⟨⟨ax, wn, cx, 0, by rw [errV_zero rfl], fun _ => ⟨rfl, by rw [← hW.len]; exact hn, hz, fun s' r' e1 e2 => ?_⟩⟩, hb⟩
    obtain rfl : s = s' := by omega
    obtain rfl : r = r' := by omega
    exact hI
  · refine (stepL_fault K B S st ra ta tn tc tz tu wa wn wc wz _ w hT hu hW rfl hf).mono ?_
    rintro e w' ⟨rfl, hb⟩
    exact ⟨⟨none, 0, 0, _, by rw [errV_some hf], fun h => absurd h hf⟩, hb⟩
theorem tu0 : (⟨#[]⟩ : ByteArray).size ≤ 9223372036854775807 := by decide
/-- Both cells turn: no weight is kept. -/
theorem fact1_ok : lfault 2 0 0 2 0 [1, 0] ⟨#[]⟩ = 0 := lfault_ok ⟨rfl, rfl, rfl, by decide, by decide, by decide, rfl, by decide, fun z hz => by simp at hz; omega, rfl⟩
theorem fact2_ok : lfault 2 0 0 2 0 [0, 1] ⟨#[]⟩ = 0 := lfault_ok ⟨rfl, rfl, rfl, by decide, by decide, by decide, rfl, by decide, fun z hz => by simp at hz; omega, rfl⟩
theorem fact1_kept : false = true ↔ KeptW (fun s => [(0 : Int), 1].getD s 0) (wf [1, 0]) 2 (2 * 0 + 1) := by
  constructor
  · intro h; cases h
  · intro h
    have := h 0 (by decide)
    revert this
    unfold CondW made
    decide
theorem fact2_kept : true = true ↔ KeptW (fun s => [(0 : Int), 1].getD s 0) (wf [0, 1]) 2 (2 * 0 + 1) := by
  refine ⟨fun _ n hn => ?_, fun _ => rfl⟩
  have : n = 0 ∨ n = 1 := by have : (2 : Nat) ^ (2 * 0 + 1) = 2 := rfl; omega
  rcases this with rfl | rfl
  · unfold CondW made; decide
  · unfold CondW made; decide
theorem weights_same {s r : Nat} {tz wz sz : List Int} (h : KeptW (fun s => sz.getD s 0) (wf tz) s (2 * r + 1)) (hs : 0 < s) (hz : ∀ z ∈ wz, 0 ≤ z ∧ z < (s : Int)) :
    sumI (fun i => sz.getD (wf (stepL (wf tz) s r wz) i) 0) wz.length = sumI (fun i => sz.getD (wf wz i) 0) wz.length := by
  rcases Nat.eq_zero_or_pos wz.length with h0 | h0
  · rw [h0]; rfl
  · rw [← kept_ring (R := r) h0 h (wf_lt hs hz)]
    refine sumI_congr fun i hi => ?_
    unfold stepL
    rw [wf_lst hi]
set_option maxHeartbeats 8000000 in
set_option maxRecDepth 1000000 in
theorem sumsKeeps_any (K B S st ra : Int) (ta : Option Addr) (tn tc : Nat) (tz : List Int) (tu : ByteArray) (sa : Option Addr) (sn sc : Nat) (sz : List Int) (wa : Option Addr) (wn wc : Nat) (wz : List Int) (w : World) (hT : Ints.Is w ta tn tz) (hu : tu.size ≤ 9223372036854775807) (hS : Ints.Is w sa sn sz) (hW : Ints.Is w wa wn wz) (hwc : wn ≤ wc) :
    Calls Tryd.prog 3 #[.agg #[.int .i64 K, .int .i64 B, .int .i64 S, .int .i64 st, .int .i64 ra, .slice ta tn tc, .string tu], .slice sa sn sc, .slice wa wn wc] w fun e w' => e = .returned (.bool true) ∧ Below w.heap.size w w' := by
  have HT := Lib.hid hT
  have HS := Lib.hid hS
  have HW := Lib.hid hW
  clear hT hS hW
  go_enter Tryd.func3, Tryd.ntmps3
  go_upto_region 1 with fail
  obtain ⟨hR, hB⟩ := row_rule w K B S st ra ta tn tc tu
  have HR : Hid (Row (w.alloc (.cells #[.int .i64 K, .int .i64 B, .int .i64 S, .int .i64 st, .int .i64 ra, .slice ta tn tc, .string tu] 24)) w.heap.size 24 (rulL K B S st ra ta tn tc tu)) := hR
  have HB : Hid (Below w.heap.size w (w.alloc (.cells #[.int .i64 K, .int .i64 B, .int .i64 S, .int .i64 st, .int .i64 ra, .slice ta tn tc, .string tu] 24))) := hB
  clear hR hB
  generalize w.alloc (.cells #[.int .i64 K, .int .i64 B, .int .i64 S, .int .i64 st, .int .i64 ra, .slice ta tn tc, .string tu] 24) = w1 at *
  obtain ⟨b3, hb3⟩ : ∃ b3, b3 = w.heap.size := ⟨_, rfl⟩
  rw [← hb3] at HR ⊢
  clear hb3
  go_wp2_with fail
  obtain ⟨hRa, hRb, hb2⟩ := two_new w1 3 3 [.int .i64 1, .int .i64 0] [.int .i64 0, .int .i64 1]
  have HRa : Hid (Row ((w1.alloc (.cells #[.int .i64 1, .int .i64 0] 3)).alloc (.cells #[.int .i64 0, .int .i64 1] 3)) w1.heap.size 3 [.int .i64 1, .int .i64 0]) := hRa
  have HRb : Hid (Row ((w1.alloc (.cells #[.int .i64 1, .int .i64 0] 3)).alloc (.cells #[.int .i64 0, .int .i64 1] 3)) (w1.heap.size + 1) 3 [.int .i64 0, .int .i64 1]) := hRb
  have hb2 : Below w1.heap.size w1 ((w1.alloc (.cells #[.int .i64 1, .int .i64 0] 3)).alloc (.cells #[.int .i64 0, .int .i64 1] 3)) := hb2
  clear hRa hRb
  have HR := Lib.hid (HR.out.keep hb2 HR.out.lt)
  have HB := Lib.hid (HB.out.trans (hb2.mono HB.out.size))
  clear hb2
  generalize (w1.alloc (.cells #[.int .i64 1, .int .i64 0] 3)).alloc (.cells #[.int .i64 0, .int .i64 1] 3) = v1 at *
  have HK1 := Lib.hid (keeps_ok 2 0 0 2 0 (some ⟨w1.heap.size, 0, none⟩) 2 2 [1, 0] ⟨#[]⟩ (some ⟨w1.heap.size + 1, 0, none⟩) 2 2 [0, 1] v1 (row_isN (zs := [1, 0]) HRa.out rfl (by decide)) tu0 (row_isN (zs := [0, 1]) HRb.out rfl (by decide)) fact1_ok rfl (by decide) false fact1_kept)
  refine (HK1.out).mono ?_
  rintro e0 w2 ⟨rfl, hb9⟩
  have HR := Lib.hid (HR.out.keep hb9 HR.out.lt)
  have HB := Lib.hid (HB.out.trans (hb9.mono HB.out.size))
  clear hb9
  clear HRa HRb HK1
  go_wp2_with fail
  obtain ⟨hRa, hRb, hb2⟩ := two_new w2 3 3 [.int .i64 0, .int .i64 1] [.int .i64 0, .int .i64 1]
  have HRa : Hid (Row ((w2.alloc (.cells #[.int .i64 0, .int .i64 1] 3)).alloc (.cells #[.int .i64 0, .int .i64 1] 3)) w2.heap.size 3 [.int .i64 0, .int .i64 1]) := hRa
  have HRb : Hid (Row ((w2.alloc (.cells #[.int .i64 0, .int .i64 1] 3)).alloc (.cells #[.int .i64 0, .int .i64 1] 3)) (w2.heap.size + 1) 3 [.int .i64 0, .int .i64 1]) := hRb
  have hb2 : Below w2.heap.size w2 ((w2.alloc (.cells #[.int .i64 0, .int .i64 1] 3)).alloc (.cells #[.int .i64 0, .int .i64 1] 3)) := hb2
  clear hRa hRb
  have HR := Lib.hid (HR.out.keep hb2 HR.out.lt)
  have HB := Lib.hid (HB.out.trans (hb2.mono HB.out.size))
  clear hb2
  generalize (w2.alloc (.cells #[.int .i64 0, .int .i64 1] 3)).alloc (.cells #[.int .i64 0, .int .i64 1] 3) = v2 at *
  have HK2 := Lib.hid (keeps_ok 2 0 0 2 0 (some ⟨w2.heap.size, 0, none⟩) 2 2 [0, 1] ⟨#[]⟩ (some ⟨w2.heap.size + 1, 0, none⟩) 2 2 [0, 1] v2 (row_isN (zs := [0, 1]) HRa.out rfl (by decide)) tu0 (row_isN (zs := [0, 1]) HRb.out rfl (by decide)) fact2_ok rfl (by decide) true fact2_kept)
  refine (HK2.out).mono ?_
  rintro e0 w3 ⟨rfl, hb9⟩
  have HR := Lib.hid (HR.out.keep hb9 HR.out.lt)
  have HB := Lib.hid (HB.out.trans (hb9.mono HB.out.size))
  clear hb9
  clear HRa HRb HK2
  have l3 := row_range HR.out
  go_wp2_with (refine wpList_load_mid rfl 24 _ rfl b3 0 rfl _ _ l3 Tryd.underlying24 rfl infoRule ?_)
  clear l3
  refine (keeps_any K B S st ra ta tn tc tz tu sa sn sc sz _ (HT.out.keep HB.out) hu (HS.out.keep HB.out)).mono ?_
  rintro e0 w4 ⟨⟨k, f, rfl, hkf⟩, hb9⟩
  have HR := Lib.hid (HR.out.keep hb9 HR.out.lt)
  have HB := Lib.hid (HB.out.trans (hb9.mono HB.out.size))
  clear hb9
  have HKF := Lib.hid hkf
  clear hkf
  have l3 := row_range HR.out
  go_wp2_with (refine wpList_load_mid rfl 24 _ rfl b3 0 rfl _ _ l3 Tryd.underlying24 rfl infoRule ?_)
  clear l3
  refine (stepK_any K B S st ra ta tn tc tz tu wa wn wc wz _ (HT.out.keep HB.out) hu (HW.out.keep HB.out) hwc).mono ?_
  rintro e0 w5 ⟨⟨ax, xn, cx, g, rfl, hg⟩, hb9⟩
  have HR := Lib.hid (HR.out.keep hb9 HR.out.lt)
  have HB := Lib.hid (HB.out.trans (hb9.mono HB.out.size))
  clear hb9
  have HG := Lib.hid hg
  clear hg
  by_cases hf : f = 0
  · subst hf
    rw [errV_zero rfl]
    by_cases hg : g = 0
    · subst hg
      rw [errV_zero rfl]
      cases k
      · skip
        go_wp2_with fail
        go_ret
        exact ⟨rfl, HB.out⟩
      · skip
        obtain ⟨s, r, rfl, rfl, hsn, h2, htz, hwb, hkw⟩ := (HKF.out rfl rfl).ok
        obtain ⟨hxn, hwn, hz, hI⟩ := HG.out rfl
        subst hxn
        have HI := Lib.hid (hI s r rfl rfl)
        have HWB := Lib.hid hwb
        have HSN := Lib.hid hsn
        have HZ := Lib.hid hz
        have HEQ := Lib.hid (weights_same hkw (by omega) hz)
        have hlen := HW.out.len
        rw [hlen] at HEQ
        have HTL := Lib.hid (fun k => wf_lt (st := s) (by omega) htz k)
        clear hI hwb hsn hz hkw htz hlen HKF HG
        go_wp2_with fail
        obtain ⟨su, hsu⟩ : ∃ su, su = sumI (fun i => sz.getD (wf wz i) 0) xn := ⟨_, rfl⟩
        have HQ1 := Lib.hid (weight_any wa sa xn wc sn sc wz sz _ (HW.out.keep HB.out) (HS.out.keep HB.out) (fun z h => by have := HZ.out z h; have := HSN.out; omega) HWB.out (by omega))
        have HQ2 := Lib.hid (weight_any ax sa xn cx sn sc _ sz _ HI.out (HS.out.keep HB.out) (fun z h => by have := lst_mem (st := s) (fun k => HTL.out _) z h; have := HSN.out; omega) HWB.out (by omega))
        rw [HEQ.out, ← hsu] at HQ2
        rw [← hsu] at HQ1
        clear hsu HEQ
        refine HQ1.out.mono ?_
        rintro e0 v10 ⟨rfl, rfl⟩
        go_wp2_with fail
        refine HQ2.out.mono ?_
        rintro e0 v11 ⟨rfl, rfl⟩
        go_wp2_with fail
        go_ret
        exact ⟨rfl, HB.out⟩
    · rw [errV_some hg]
      cases k
      · skip
        go_wp2_with fail
        go_ret
        exact ⟨rfl, HB.out⟩
      · skip
        go_wp2_with fail
        go_ret
        exact ⟨rfl, HB.out⟩
  · rw [errV_some hf]
    by_cases hg : g = 0
    · subst hg
      rw [errV_zero rfl]
      go_wp2_with fail
      go_ret
      exact ⟨rfl, HB.out⟩
    · rw [errV_some hg]
      go_wp2_with fail
      go_ret
      exact ⟨rfl, HB.out⟩
end Ln
end Go.Proofs.YtahhhbdnhimbfaaDoor
