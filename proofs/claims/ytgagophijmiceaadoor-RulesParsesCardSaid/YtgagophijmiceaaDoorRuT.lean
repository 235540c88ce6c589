/- WALK: edenref1.Parse, whole. -/
import Derived.Test.YtgagophijmiceaaDoorRuS
namespace Go.Proofs.YtgagophijmiceaaDoor
set_option linter.unusedSimpArgs false
set_option linter.unusedVariables false
open Go.RowKit
namespace Pr
open Tld Mem Bl Pn Pw Rd

set_option maxHeartbeats 16000000 in
set_option maxRecDepth 1000000 in
theorem rparse_L (s : ByteArray) (w : World) (hs : s.size ≤ 9223372036854775807) (hd : s.data.toList.head? = some 76) : Calls Tryd.prog 8 #[.string s] w fun e w' => PaQ s.data.toList e w' ∧ Below w.heap.size w w' := by
  have HSZ := Lib.hid hs
  clear hs
  go_enter Tryd.func8, Tryd.ntmps8
  go_upto_region 2 with fail
  obtain ⟨hr5, hr8, hb2⟩ := two_new w 24 24 (rbox 0 0 0 0 0 (.slice none 0 0) ⟨#[]⟩) (rbox 0 0 0 0 0 (.slice none 0 0) ⟨#[]⟩)
  have HR : Hid (Row ((w.alloc (.cells #[.int .i64 0, .int .i64 0, .int .i64 0, .int .i64 0, .int .i64 0, .slice none 0 0, .string ⟨#[]⟩] 24)).alloc (.cells #[.int .i64 0, .int .i64 0, .int .i64 0, .int .i64 0, .int .i64 0, .slice none 0 0, .string ⟨#[]⟩] 24)) w.heap.size 24 (rbox 0 0 0 0 0 (.slice none 0 0) ⟨#[]⟩)) := Lib.hid hr5
  have HQ : Hid (Row ((w.alloc (.cells #[.int .i64 0, .int .i64 0, .int .i64 0, .int .i64 0, .int .i64 0, .slice none 0 0, .string ⟨#[]⟩] 24)).alloc (.cells #[.int .i64 0, .int .i64 0, .int .i64 0, .int .i64 0, .int .i64 0, .slice none 0 0, .string ⟨#[]⟩] 24)) (w.heap.size + 1) 24 (rbox 0 0 0 0 0 (.slice none 0 0) ⟨#[]⟩)) := Lib.hid hr8
  have HB : Hid (Below w.heap.size w ((w.alloc (.cells #[.int .i64 0, .int .i64 0, .int .i64 0, .int .i64 0, .int .i64 0, .slice none 0 0, .string ⟨#[]⟩] 24)).alloc (.cells #[.int .i64 0, .int .i64 0, .int .i64 0, .int .i64 0, .int .i64 0, .slice none 0 0, .string ⟨#[]⟩] 24))) := Lib.hid hb2
  clear hr5 hr8 hb2
  generalize (w.alloc (.cells #[.int .i64 0, .int .i64 0, .int .i64 0, .int .i64 0, .int .i64 0, .slice none 0 0, .string ⟨#[]⟩] 24)).alloc (.cells #[.int .i64 0, .int .i64 0, .int .i64 0, .int .i64 0, .int .i64 0, .slice none 0 0, .string ⟨#[]⟩] 24) = w1 at *
  obtain ⟨rb, hrb⟩ : ∃ rb, rb = w.heap.size := ⟨_, rfl⟩
  rw [← hrb] at HR HQ ⊢
  obtain ⟨ob, hob⟩ : ∃ ob, ob = rb + 1 := ⟨_, rfl⟩
  rw [← hob] at HQ ⊢
  have HNE : Hid (w.heap.size ≤ rb ∧ ob ≠ rb ∧ w.heap.size ≤ ob) := Lib.hid (by omega)
  clear hrb hob
  have hs0 : ¬ s.size = 0 := by have h := head_lt hd; omega
  have hse := str_ne hs0
  have hk0 : 0 < s.size := by omega
  have hg := get_drop s hk0
  have HK0 := Lib.hid hk0
  clear hs0
  go_upto_region 5 with fail
  have hn3 := row_alloc w1 24 (rbox 0 0 0 0 0 (.slice none 0 0) ⟨#[]⟩)
  have hb3 : Below w1.heap.size w1 (w1.alloc (.cells (rbox 0 0 0 0 0 (.slice none 0 0) ⟨#[]⟩).toArray 24)) := (Below.refl _ _).alloc (Nat.le_refl _) _
  have HT : Hid (QSt w (w1.alloc (.cells #[.int .i64 0, .int .i64 0, .int .i64 0, .int .i64 0, .int .i64 0, .slice none 0 0, .string ⟨#[]⟩] 24)) ob rb w1.heap.size 0 0 0 0 0 ⟨#[]⟩ [] (.slice none 0 0)) := Lib.hid
    ⟨HQ.out.keep hb3 HQ.out.lt, HR.out.keep hb3 HR.out.lt, hn3, ⟨rfl, .inl ⟨rfl, rfl⟩⟩, HB.out.trans (hb3.mono HB.out.size), Nat.le_trans HB.out.size hb3.size, ⟨HNE.out.2.2, HNE.out.1, HB.out.size, HNE.out.2.1, Nat.ne_of_lt HQ.out.lt, Nat.ne_of_lt HR.out.lt⟩⟩
  clear hn3 hb3 HQ HR HB HNE
  obtain ⟨nb, hnb⟩ : ∃ nb, nb = w1.heap.size := ⟨_, rfl⟩
  rw [← hnb] at HT ⊢
  clear hnb
  generalize w1.alloc (.cells #[.int .i64 0, .int .i64 0, .int .i64 0, .int .i64 0, .int .i64 0, .slice none 0 0, .string ⟨#[]⟩] 24) = w2 at *
  have hd0 : s.data.toList.head? = some (s.data.toList.getD 0 0) := by
    rw [Lib.size_eq] at hk0
    rcases hl : s.data.toList with _ | ⟨x, l⟩
    · rw [hl] at hk0; exact absurd hk0 (by decide)
    · rfl
  obtain ⟨x0, hx0⟩ : ∃ x0, x0 = s.data.toList.getD 0 0 := ⟨_, rfl⟩
  rw [← hx0] at hg hd0
  have HD0 := Lib.hid hd0
  have HI : Hid (1 ≤ s.size) := Lib.hid hk0
  clear hx0 hd0
  go_upto_region 8 with fail
  clear hg hse hk0
  have hx : x0 = 76 := Option.some.inj (HD0.out.symm.trans hd)
  have h66 : ¬ x0 = 66 := by rw [hx]; decide
  have h87 : ¬ x0 = 87 := by rw [hx]; decide
  have hq66 : ((x0.toNat : Int) == 66) = false := byte_ne (k := 66) (by decide) h66
  go_upto_region 22 with fail
  clear hq66
  have hq87 : ((x0.toNat : Int) == 87) = false := byte_ne (k := 87) (by decide) h87
  go_upto_region 35 with fail
  clear hq87
  by_cases h76 : x0 = 76
  · have hq76 : ((x0.toNat : Int) == 76) = true := byte_eq (k := 76) (by decide) h76
    have HRO : Hid (ruleO s.data.toList = wantO s.data.toList 1 32 ((numO s.data.toList 2 2 4).on fun st i => wantO s.data.toList i 32 ((numO s.data.toList (i + 1) 0 2).on fun ra j => wantO s.data.toList j 32 (match tabO s.data.toList st (j + 1) (st ^ (2 * ra + 1)) with
      | some p => .bad p
      | none => endO s.data.toList (j + 1 + st ^ (2 * ra + 1)) (.ok 2 0 0 st ra (digL s.data.toList (j + 1) (st ^ (2 * ra + 1))) []))))) := Lib.hid (by unfold ruleO; rw [if_neg (by rw [HD0.out]; intro h; exact h66 (Option.some.inj h)), if_neg (by rw [HD0.out]; intro h; exact h87 (Option.some.inj h)), if_pos (by rw [HD0.out, h76])]; rfl)
    clear h66 h87 h76 HD0
    go_upto_region 36 with fail
    clear hq76
    by_cases hwc : 1 < s.data.toList.length ∧ s.data.toList.getD (1) 0 = 32
    rotate_left
    · have HBD := Lib.hid (HRO.out.trans (wantO_bad hwc))
      by_cases hks : 1 < s.size
      · have hki : ¬ (s.size : Int) ≤ ((1 : Nat) : Int) := by omega
        have hg := get_drop s hks
        obtain ⟨x, hx⟩ : ∃ x, x = s.data.toList.getD (1) 0 := ⟨_, rfl⟩
        rw [← hx] at hg hwc
        have hne : x ≠ UInt8.ofNat 32 := fun e => hwc ⟨by rw [← Lib.size_eq]; exact hks, e⟩
        have hq := byte_ne (k := 32) (by decide) hne
        have hq2 : ((x.toNat : Int) != 32) = true := congrArg not hq
        clear hx hwc hne
        have l5 := row_range HT.out.z
        have hr5 := HT.out.r
        go_wp2_with (first | (refine wpList_load_mid rfl 24 _ rfl nb 0 rfl _ _ l5 Tryd.underlying24 rfl infoRul ?_) | (refine Ops.wpList_store_arr rfl 24 _ _ rfl rb rfl 24 _ (rbox 0 0 0 0 0 (.slice none 0 0) ⟨#[]⟩) rfl hr5 rfl infoRul (rbox_one _ _ _ _ _ _ _ _ _) ?_; intro w5 hr9 ho9))
        refine bodyPost_ret (results_rule3 (t := 2) (u := 3) (v := 4) (e := .int .i64 (((1 : Nat) : Int))) (f := .bool false) rfl _ _ hr9 rfl rfl rfl rfl) rfl ⟨paQ_bad HBD.out, HT.out.bl.trans (ho9.below HT.out.ne.2.1)⟩
      · have hki : (s.size : Int) ≤ ((1 : Nat) : Int) := by omega
        clear hwc hks
        have l5 := row_range HT.out.z
        have hr5 := HT.out.r
        go_wp2_with (first | (refine wpList_load_mid rfl 24 _ rfl nb 0 rfl _ _ l5 Tryd.underlying24 rfl infoRul ?_) | (refine Ops.wpList_store_arr rfl 24 _ _ rfl rb rfl 24 _ (rbox 0 0 0 0 0 (.slice none 0 0) ⟨#[]⟩) rfl hr5 rfl infoRul (rbox_one _ _ _ _ _ _ _ _ _) ?_; intro w5 hr9 ho9))
        refine bodyPost_ret (results_rule3 (t := 2) (u := 3) (v := 4) (e := .int .i64 (((1 : Nat) : Int))) (f := .bool false) rfl _ _ hr9 rfl rfl rfl rfl) rfl ⟨paQ_bad HBD.out, HT.out.bl.trans (ho9.below HT.out.ne.2.1)⟩
    have hks : 1 < s.size := by rw [Lib.size_eq]; exact hwc.1
    have hki : ¬ (s.size : Int) ≤ ((1 : Nat) : Int) := by omega
    have hg := get_drop s hks
    rw [hwc.2] at hg
    have HRO := Lib.hid (HRO.out.trans (wantO_ok hwc))
    have HKS := Lib.hid hks
    clear hwc
    go_upto_region 38 with fail
    clear hki hg hks
    have HI : Hid (2 ≤ s.size) := Lib.hid HKS.out
    go_wp2_with fail
    have hdl := digs_le s (2) HI.out
    refine (Number_any s (2) w2 (by have := HSZ.out; omega) HI.out).mono ?_
    rintro e3 w3 ⟨rfl, rfl⟩
    have HNO : Hid (numO s.data.toList (2) 2 4 = if num (digs s (2)) < 2 ∨ 4 < num (digs s (2)) then .bad (2) else .ok (num (digs s (2))).toNat ((2) + (digs s (2)).length)) := Lib.hid rfl
    generalize num (digs s (2)) = m at *
    generalize (digs s (2)).length = Lst at *
    obtain ⟨i, hi⟩ : ∃ i, i = (2) + Lst := ⟨_, rfl⟩
    rw [← hi] at HNO hdl ⊢
    clear hi
    by_cases hm : m < 2 ∨ 4 < m
    · have HBD := Lib.hid (HRO.out.trans (RN.on_bad (HNO.out.trans (if_pos hm))))
      rcases hm with hm | hm
      · skip

        have l5 := row_range HT.out.z
        have hr5 := HT.out.r
        go_wp2_with (first | (refine wpList_load_mid rfl 24 _ rfl nb 0 rfl _ _ l5 Tryd.underlying24 rfl infoRul ?_) | (refine Ops.wpList_store_arr rfl 24 _ _ rfl rb rfl 24 _ (rbox 0 0 0 0 0 (.slice none 0 0) ⟨#[]⟩) rfl hr5 rfl infoRul (rbox_one _ _ _ _ _ _ _ _ _) ?_; intro w5 hr9 ho9))
        refine bodyPost_ret (results_rule3 (t := 2) (u := 3) (v := 4) (e := .int .i64 (((2 : Nat) : Int))) (f := .bool false) rfl _ _ hr9 rfl rfl rfl rfl) rfl ⟨paQ_bad HBD.out, HT.out.bl.trans (ho9.below HT.out.ne.2.1)⟩
      · skip
        have hm2 : ¬ m < 2 := by omega

        have l5 := row_range HT.out.z
        have hr5 := HT.out.r
        go_wp2_with (first | (refine wpList_load_mid rfl 24 _ rfl nb 0 rfl _ _ l5 Tryd.underlying24 rfl infoRul ?_) | (refine Ops.wpList_store_arr rfl 24 _ _ rfl rb rfl 24 _ (rbox 0 0 0 0 0 (.slice none 0 0) ⟨#[]⟩) rfl hr5 rfl infoRul (rbox_one _ _ _ _ _ _ _ _ _) ?_; intro w5 hr9 ho9))
        refine bodyPost_ret (results_rule3 (t := 2) (u := 3) (v := 4) (e := .int .i64 (((2 : Nat) : Int))) (f := .bool false) rfl _ _ hr9 rfl rfl rfl rfl) rfl ⟨paQ_bad HBD.out, HT.out.bl.trans (ho9.below HT.out.ne.2.1)⟩
    have hm1 : ¬ m < 2 := fun h => hm (.inl h)
    have hm2 : ¬ 4 < m := fun h => hm (.inr h)
    obtain ⟨st, rfl⟩ : ∃ st : Nat, m = (st : Nat) := ⟨m.toNat, by omega⟩
    have HRO := Lib.hid (HRO.out.trans (RN.on_ok (HNO.out.trans (if_neg hm))))
    rw [Int.toNat_natCast] at HRO
    have HBst : Hid (2 ≤ (st : Int) ∧ (st : Int) ≤ 4) := Lib.hid (by omega)
    have HI := Lib.hid hdl
    clear hm hdl HNO
    go_upto_region 41 with fail
    clear hm1 hm2
    by_cases hwc : i < s.data.toList.length ∧ s.data.toList.getD (i) 0 = 32
    rotate_left
    · have HBD := Lib.hid (HRO.out.trans (wantO_bad hwc))
      by_cases hks : i < s.size
      · have hki : ¬ (s.size : Int) ≤ ((i : Nat) : Int) := by omega
        have hg := get_drop s hks
        obtain ⟨x, hx⟩ : ∃ x, x = s.data.toList.getD (i) 0 := ⟨_, rfl⟩
        rw [← hx] at hg hwc
        have hne : x ≠ UInt8.ofNat 32 := fun e => hwc ⟨by rw [← Lib.size_eq]; exact hks, e⟩
        have hq := byte_ne (k := 32) (by decide) hne
        have hq2 : ((x.toNat : Int) != 32) = true := congrArg not hq
        clear hx hwc hne
        have l5 := row_range HT.out.z
        have hr5 := HT.out.r
        go_wp2_with (first | (refine wpList_load_mid rfl 24 _ rfl nb 0 rfl _ _ l5 Tryd.underlying24 rfl infoRul ?_) | (refine Ops.wpList_store_arr rfl 24 _ _ rfl rb rfl 24 _ (rbox 0 0 0 0 0 (.slice none 0 0) ⟨#[]⟩) rfl hr5 rfl infoRul (rbox_one _ _ _ _ _ _ _ _ _) ?_; intro w5 hr9 ho9))
        refine bodyPost_ret (results_rule3 (t := 2) (u := 3) (v := 4) (e := .int .i64 (((i : Nat) : Int))) (f := .bool false) rfl _ _ hr9 rfl rfl rfl rfl) rfl ⟨paQ_bad HBD.out, HT.out.bl.trans (ho9.below HT.out.ne.2.1)⟩
      · have hki : (s.size : Int) ≤ ((i : Nat) : Int) := by omega
        clear hwc hks
        have l5 := row_range HT.out.z
        have hr5 := HT.out.r
        go_wp2_with (first | (refine wpList_load_mid rfl 24 _ rfl nb 0 rfl _ _ l5 Tryd.underlying24 rfl infoRul ?_) | (refine Ops.wpList_store_arr rfl 24 _ _ rfl rb rfl 24 _ (rbox 0 0 0 0 0 (.slice none 0 0) ⟨#[]⟩) rfl hr5 rfl infoRul (rbox_one _ _ _ _ _ _ _ _ _) ?_; intro w5 hr9 ho9))
        refine bodyPost_ret (results_rule3 (t := 2) (u := 3) (v := 4) (e := .int .i64 (((i : Nat) : Int))) (f := .bool false) rfl _ _ hr9 rfl rfl rfl rfl) rfl ⟨paQ_bad HBD.out, HT.out.bl.trans (ho9.below HT.out.ne.2.1)⟩
    have hks : i < s.size := by rw [Lib.size_eq]; exact hwc.1
    have hki : ¬ (s.size : Int) ≤ ((i : Nat) : Int) := by omega
    have hg := get_drop s hks
    rw [hwc.2] at hg
    have HRO := Lib.hid (HRO.out.trans (wantO_ok hwc))
    have HKS := Lib.hid hks
    clear hwc
    go_upto_region 43 with fail
    clear hki hg hks
    have HI : Hid (i + 1 ≤ s.size) := Lib.hid HKS.out
    obtain ⟨i2, hi2⟩ : ∃ i2, i2 = i + 1 := ⟨_, rfl⟩
    have Ei2 : Hid (wrap64 (((i : Nat) : Int) + 1) = ((i2 : Nat) : Int)) := Lib.hid (wr48b (by rw [hi2]; push_cast; rfl) (by have := HSZ.out; have := HI.out; omega))
    rw [← hi2] at HI HRO
    clear HKS
    have HKEi2 := Lib.hid hi2
    clear hi2
    have ei2 := Ei2.out
    go_wp2_with fail
    try rw [ei2]
    have hdl := digs_le s (i2) HI.out
    refine (Number_any s (i2) w3 (by have := HSZ.out; omega) HI.out).mono ?_
    rintro e4 w4 ⟨rfl, rfl⟩
    have HNO : Hid (numO s.data.toList (i2) 0 2 = if num (digs s (i2)) < 0 ∨ 2 < num (digs s (i2)) then .bad (i2) else .ok (num (digs s (i2))).toNat ((i2) + (digs s (i2)).length)) := Lib.hid rfl
    generalize num (digs s (i2)) = m at *
    generalize (digs s (i2)).length = Lra at *
    obtain ⟨j, hj⟩ : ∃ j, j = (i2) + Lra := ⟨_, rfl⟩
    rw [← hj] at HNO hdl ⊢
    clear hj
    by_cases hm : m < 0 ∨ 2 < m
    · have HBD := Lib.hid (HRO.out.trans (RN.on_bad (HNO.out.trans (if_pos hm))))
      rcases hm with hm | hm
      · skip

        have l5 := row_range HT.out.z
        have hr5 := HT.out.r
        go_wp2_with (first | (refine wpList_load_mid rfl 24 _ rfl nb 0 rfl _ _ l5 Tryd.underlying24 rfl infoRul ?_) | (refine Ops.wpList_store_arr rfl 24 _ _ rfl rb rfl 24 _ (rbox 0 0 0 0 0 (.slice none 0 0) ⟨#[]⟩) rfl hr5 rfl infoRul (rbox_one _ _ _ _ _ _ _ _ _) ?_; intro w5 hr9 ho9))
        try rw [ei2]
        refine bodyPost_ret (results_rule3 (t := 2) (u := 3) (v := 4) (e := .int .i64 (((i2 : Nat) : Int))) (f := .bool false) rfl _ _ hr9 rfl rfl rfl rfl) rfl ⟨paQ_bad HBD.out, HT.out.bl.trans (ho9.below HT.out.ne.2.1)⟩
      · skip
        have hm2 : ¬ m < 0 := by omega

        have l5 := row_range HT.out.z
        have hr5 := HT.out.r
        go_wp2_with (first | (refine wpList_load_mid rfl 24 _ rfl nb 0 rfl _ _ l5 Tryd.underlying24 rfl infoRul ?_) | (refine Ops.wpList_store_arr rfl 24 _ _ rfl rb rfl 24 _ (rbox 0 0 0 0 0 (.slice none 0 0) ⟨#[]⟩) rfl hr5 rfl infoRul (rbox_one _ _ _ _ _ _ _ _ _) ?_; intro w5 hr9 ho9))
        try rw [ei2]
        refine bodyPost_ret (results_rule3 (t := 2) (u := 3) (v := 4) (e := .int .i64 (((i2 : Nat) : Int))) (f := .bool false) rfl _ _ hr9 rfl rfl rfl rfl) rfl ⟨paQ_bad HBD.out, HT.out.bl.trans (ho9.below HT.out.ne.2.1)⟩
    have hm1 : ¬ m < 0 := fun h => hm (.inl h)
    have hm2 : ¬ 2 < m := fun h => hm (.inr h)
    obtain ⟨ra, rfl⟩ : ∃ ra : Nat, m = (ra : Nat) := ⟨m.toNat, by omega⟩
    have HRO := Lib.hid (HRO.out.trans (RN.on_ok (HNO.out.trans (if_neg hm))))
    rw [Int.toNat_natCast] at HRO
    have HBra : Hid (0 ≤ (ra : Int) ∧ (ra : Int) ≤ 2) := Lib.hid (by omega)
    have HI := Lib.hid hdl
    clear hm hdl HNO
    go_upto_region 46 with fail
    clear hm1 hm2
    clear ei2
    by_cases hwc : j < s.data.toList.length ∧ s.data.toList.getD (j) 0 = 32
    rotate_left
    · have HBD := Lib.hid (HRO.out.trans (wantO_bad hwc))
      by_cases hks : j < s.size
      · have hki : ¬ (s.size : Int) ≤ ((j : Nat) : Int) := by omega
        have hg := get_drop s hks
        obtain ⟨x, hx⟩ : ∃ x, x = s.data.toList.getD (j) 0 := ⟨_, rfl⟩
        rw [← hx] at hg hwc
        have hne : x ≠ UInt8.ofNat 32 := fun e => hwc ⟨by rw [← Lib.size_eq]; exact hks, e⟩
        have hq := byte_ne (k := 32) (by decide) hne
        have hq2 : ((x.toNat : Int) != 32) = true := congrArg not hq
        clear hx hwc hne
        have l5 := row_range HT.out.z
        have hr5 := HT.out.r
        go_wp2_with (first | (refine wpList_load_mid rfl 24 _ rfl nb 0 rfl _ _ l5 Tryd.underlying24 rfl infoRul ?_) | (refine Ops.wpList_store_arr rfl 24 _ _ rfl rb rfl 24 _ (rbox 0 0 0 0 0 (.slice none 0 0) ⟨#[]⟩) rfl hr5 rfl infoRul (rbox_one _ _ _ _ _ _ _ _ _) ?_; intro w5 hr9 ho9))
        refine bodyPost_ret (results_rule3 (t := 2) (u := 3) (v := 4) (e := .int .i64 (((j : Nat) : Int))) (f := .bool false) rfl _ _ hr9 rfl rfl rfl rfl) rfl ⟨paQ_bad HBD.out, HT.out.bl.trans (ho9.below HT.out.ne.2.1)⟩
      · have hki : (s.size : Int) ≤ ((j : Nat) : Int) := by omega
        clear hwc hks
        have l5 := row_range HT.out.z
        have hr5 := HT.out.r
        go_wp2_with (first | (refine wpList_load_mid rfl 24 _ rfl nb 0 rfl _ _ l5 Tryd.underlying24 rfl infoRul ?_) | (refine Ops.wpList_store_arr rfl 24 _ _ rfl rb rfl 24 _ (rbox 0 0 0 0 0 (.slice none 0 0) ⟨#[]⟩) rfl hr5 rfl infoRul (rbox_one _ _ _ _ _ _ _ _ _) ?_; intro w5 hr9 ho9))
        refine bodyPost_ret (results_rule3 (t := 2) (u := 3) (v := 4) (e := .int .i64 (((j : Nat) : Int))) (f := .bool false) rfl _ _ hr9 rfl rfl rfl rfl) rfl ⟨paQ_bad HBD.out, HT.out.bl.trans (ho9.below HT.out.ne.2.1)⟩
    have hks : j < s.size := by rw [Lib.size_eq]; exact hwc.1
    have hki : ¬ (s.size : Int) ≤ ((j : Nat) : Int) := by omega
    have hg := get_drop s hks
    rw [hwc.2] at hg
    have HRO := Lib.hid (HRO.out.trans (wantO_ok hwc))
    have HKS := Lib.hid hks
    clear hwc
    go_upto_region 48 with fail
    clear hki hg hks
    have z0 := HT.out.q.frozen 0
    have g0 := HT.out.q.cell 0
    unfold rbox at g0
    dsimp only [List.getElem?_cons_succ, List.getElem?_cons_zero] at g0
    go_upto_region 49 with fail
    clear z0 g0
    have HT := Lib.hid (HT.out.set0 (2))
    generalize w4.setCell ⟨ob, 0, none⟩ (.int .i64 (2)) = w5 at *
    have z3 := HT.out.q.frozen 3
    have g3 := HT.out.q.cell 3
    unfold rbox at g3
    dsimp only [List.getElem?_cons_succ, List.getElem?_cons_zero] at g3
    go_upto_region 50 with fail
    clear z3 g3
    have HT := Lib.hid (HT.out.set3 (((st : Nat) : Int)))
    generalize w5.setCell ⟨ob, 3, none⟩ (.int .i64 (((st : Nat) : Int))) = w6 at *
    have z4 := HT.out.q.frozen 4
    have g4 := HT.out.q.cell 4
    unfold rbox at g4
    dsimp only [List.getElem?_cons_succ, List.getElem?_cons_zero] at g4
    go_upto_region 51 with fail
    clear z4 g4
    have HT := Lib.hid (HT.out.set4 (((ra : Nat) : Int)))
    generalize w6.setCell ⟨ob, 4, none⟩ (.int .i64 (((ra : Nat) : Int))) = w7 at *
    have HI : Hid (j + 1 ≤ s.size) := Lib.hid HKS.out
    obtain ⟨j2, hj2⟩ : ∃ j2, j2 = j + 1 := ⟨_, rfl⟩
    have Ej2 : Hid (wrap64 (((j : Nat) : Int) + 1) = ((j2 : Nat) : Int)) := Lib.hid (wr48b (by rw [hj2]; push_cast; rfl) (by have := HSZ.out; have := HI.out; omega))
    rw [← hj2] at HI HRO
    clear HKS
    have HKEj2 := Lib.hid hj2
    clear hj2
    have HB1 : Hid (st ≤ 4 ∧ 2 * ra + 1 ≤ 5) := Lib.hid (by have h := HBst.out; have h2 := HBra.out; omega)
    obtain ⟨m2, hm2⟩ : ∃ m2, m2 = 2 * ra := ⟨_, rfl⟩
    obtain ⟨m3, hm3⟩ : ∃ m3, m3 = 2 * ra + 1 := ⟨_, rfl⟩
    have P1 : Hid (wrap64 (2 * (ra : Int)) = ((m2 : Nat) : Int)) := Lib.hid (wr48b (by rw [hm2]; push_cast; rfl) (by have := HB1.out; omega))
    have P2 : Hid (wrap64 (((m2 : Nat) : Int) + 1) = ((m3 : Nat) : Int)) := Lib.hid (wr48b (by rw [hm2, hm3]; push_cast; rfl) (by have := HB1.out; omega))
    have HM3 : Hid (2 * (ra : Int) + 1 = ((m3 : Nat) : Int)) := Lib.hid (by rw [hm3]; push_cast; rfl)
    rw [← hm3] at HB1 HRO
    have HPW := Lib.hid (rpower_any st m3 w7 HB1.out.1 HB1.out.2)
    have HC : Hid (st ^ m3 ≤ 1024) := Lib.hid (Nat.le_trans (Nat.pow_le_pow_left HB1.out.1 _) (Nat.le_trans (Nat.pow_le_pow_right (by decide) HB1.out.2) (by decide)))
    obtain ⟨cnt, hcnt⟩ : ∃ cnt, cnt = st ^ m3 := ⟨_, rfl⟩
    rw [← hcnt] at HPW HC HRO
    clear hm2 hm3 hcnt
    go_wp2_with fail
    rw [HM3.out]
    refine HPW.out.mono ?_
    rintro e9 w9 ⟨rfl, rfl⟩
    have ej2 := Ej2.out
    go_upto_block 3 with fail
    try rw [ej2]
    clear ej2
    apply rq_tab (w0 := w) (s := s) (ob := ob) (rb := rb) (nb := nb) (i := j2) (cnt := cnt) (st := st) (K := 2) (Bo := 0) (S := 0) (ra := ra) (tu := ⟨#[]⟩) (vs0 := .slice none 0 0)
    case hs => exact HSZ.out
    case hi => exact HI.out
    case hc => exact HC.out
    case hst => exact HB1.out.1
    case hT => exact HT.out
    case hret =>
      rintro a9 w9 v9 p hr9 hd9 rfl hp hbl
      show bodyPost Tryd.prog Tryd.f8 (fun e w' => PaQ s.data.toList e w' ∧ Below w.heap.size w w') .ret _ _
      exact bodyPost_ret hr9 hd9 ⟨paQ_bad (by rw [HRO.out, hp]), hbl⟩
    case hnext =>
    intro u3 u4 u198 u199 u200 u201 u202 u203 u204 u205 u206 u207 u208 u209 u210 u211 u212 u213 u214 u215 u216 u217 u218 u219 u220 u221 u222 u223 u224 u225 u226 u227 u228 u229 u230 u231 u232 u233 u234 u235 w9 hnone hle hE
    clear HT
    obtain ⟨vs8, ht8⟩ := hE
    have HT := Lib.hid ht8
    have HI := Lib.hid hle
    have HRO := Lib.hid (HRO.out.trans (by rw [hnone]))
    clear ht8 hnone hle
    obtain ⟨z, hz⟩ : ∃ z, z = j2 + cnt := ⟨_, rfl⟩
    rw [← hz] at HRO HI ⊢
    clear hz
    go_upto_region 72 with fail
    by_cases hlt : z < s.size
    · have hli : ((z : Nat) : Int) < (s.size : Int) := by omega
      have HBD := Lib.hid (HRO.out.trans (endO_bad hlt))
      clear hlt
      have l5 := row_range HT.out.z
      have hr5 := HT.out.r
      go_wp2_with (first | (refine wpList_load_mid rfl 24 _ rfl nb 0 rfl _ _ l5 Tryd.underlying24 rfl infoRul ?_) | (refine Ops.wpList_store_arr rfl 24 _ _ rfl rb rfl 24 _ (rbox 0 0 0 0 0 (.slice none 0 0) ⟨#[]⟩) rfl hr5 rfl infoRul (rbox_one _ _ _ _ _ _ _ _ _) ?_; intro w5 hr9 ho9))
      refine bodyPost_ret (results_rule3 (t := 2) (u := 3) (v := 4) (e := .int .i64 (((z : Nat) : Int))) (f := .bool false) rfl _ _ hr9 rfl rfl rfl rfl) rfl ⟨paQ_bad HBD.out, HT.out.bl.trans (ho9.below HT.out.ne.2.1)⟩
    have hli : ¬ ((z : Nat) : Int) < (s.size : Int) := by omega
    have HRO := Lib.hid (HRO.out.trans (endO_ok hlt))
    clear hlt
    have HQ := Lib.hid HT.out.q
    have HR2 := Lib.hid HT.out.r
    have HOW := Lib.hid HT.out.o
    have HNE := Lib.hid HT.out.ne
    have HBL2 := Lib.hid HT.out.bl
    clear HT
    obtain ⟨av, cv, hve, _⟩ := own_is HOW.out
    try subst hve
    have l5 := row_range HQ.out
    have hr5 := HR2.out
    go_wp2_with (first | (refine wpList_load_mid rfl 24 _ rfl ob 0 rfl _ _ l5 Tryd.underlying24 rfl infoRul ?_) | (refine Ops.wpList_store_arr rfl 24 _ _ rfl rb rfl 24 _ _ rfl hr5 rfl infoRul (rbox_one _ _ _ _ _ _ _ _ _) ?_; intro w5 hr9 ho9))
    refine bodyPost_ret (results_rule3 (t := 2) (u := 3) (v := 4) (e := .int .i64 0) (f := .bool true) rfl _ _ hr9 rfl rfl rfl rfl) rfl ⟨paQ_ok HRO.out rfl ?_, HBL2.out.trans (ho9.below HNE.out.2.1)⟩
    obtain ⟨_, _, hve2, _, _, his, _⟩ := own_is (own_only HOW.out ho9 (own_ne HOW.out HR2.out (by decide)))
    cases hve2
    exact his
  exact absurd hx h76
set_option maxHeartbeats 16000000 in
set_option maxRecDepth 1000000 in
theorem rparse_T (s : ByteArray) (w : World) (hs : s.size ≤ 9223372036854775807) (hd : s.data.toList.head? = some 84) : Calls Tryd.prog 8 #[.string s] w fun e w' => PaQ s.data.toList e w' ∧ Below w.heap.size w w' := by
  have HSZ := Lib.hid hs
  clear hs
  go_enter Tryd.func8, Tryd.ntmps8
  go_upto_region 2 with fail
  obtain ⟨hr5, hr8, hb2⟩ := two_new w 24 24 (rbox 0 0 0 0 0 (.slice none 0 0) ⟨#[]⟩) (rbox 0 0 0 0 0 (.slice none 0 0) ⟨#[]⟩)
  have HR : Hid (Row ((w.alloc (.cells #[.int .i64 0, .int .i64 0, .int .i64 0, .int .i64 0, .int .i64 0, .slice none 0 0, .string ⟨#[]⟩] 24)).alloc (.cells #[.int .i64 0, .int .i64 0, .int .i64 0, .int .i64 0, .int .i64 0, .slice none 0 0, .string ⟨#[]⟩] 24)) w.heap.size 24 (rbox 0 0 0 0 0 (.slice none 0 0) ⟨#[]⟩)) := Lib.hid hr5
  have HQ : Hid (Row ((w.alloc (.cells #[.int .i64 0, .int .i64 0, .int .i64 0, .int .i64 0, .int .i64 0, .slice none 0 0, .string ⟨#[]⟩] 24)).alloc (.cells #[.int .i64 0, .int .i64 0, .int .i64 0, .int .i64 0, .int .i64 0, .slice none 0 0, .string ⟨#[]⟩] 24)) (w.heap.size + 1) 24 (rbox 0 0 0 0 0 (.slice none 0 0) ⟨#[]⟩)) := Lib.hid hr8
  have HB : Hid (Below w.heap.size w ((w.alloc (.cells #[.int .i64 0, .int .i64 0, .int .i64 0, .int .i64 0, .int .i64 0, .slice none 0 0, .string ⟨#[]⟩] 24)).alloc (.cells #[.int .i64 0, .int .i64 0, .int .i64 0, .int .i64 0, .int .i64 0, .slice none 0 0, .string ⟨#[]⟩] 24))) := Lib.hid hb2
  clear hr5 hr8 hb2
  generalize (w.alloc (.cells #[.int .i64 0, .int .i64 0, .int .i64 0, .int .i64 0, .int .i64 0, .slice none 0 0, .string ⟨#[]⟩] 24)).alloc (.cells #[.int .i64 0, .int .i64 0, .int .i64 0, .int .i64 0, .int .i64 0, .slice none 0 0, .string ⟨#[]⟩] 24) = w1 at *
  obtain ⟨rb, hrb⟩ : ∃ rb, rb = w.heap.size := ⟨_, rfl⟩
  rw [← hrb] at HR HQ ⊢
  obtain ⟨ob, hob⟩ : ∃ ob, ob = rb + 1 := ⟨_, rfl⟩
  rw [← hob] at HQ ⊢
  have HNE : Hid (w.heap.size ≤ rb ∧ ob ≠ rb ∧ w.heap.size ≤ ob) := Lib.hid (by omega)
  clear hrb hob
  have hs0 : ¬ s.size = 0 := by have h := head_lt hd; omega
  have hse := str_ne hs0
  have hk0 : 0 < s.size := by omega
  have hg := get_drop s hk0
  have HK0 := Lib.hid hk0
  clear hs0
  go_upto_region 5 with fail
  have hn3 := row_alloc w1 24 (rbox 0 0 0 0 0 (.slice none 0 0) ⟨#[]⟩)
  have hb3 : Below w1.heap.size w1 (w1.alloc (.cells (rbox 0 0 0 0 0 (.slice none 0 0) ⟨#[]⟩).toArray 24)) := (Below.refl _ _).alloc (Nat.le_refl _) _
  have HT : Hid (QSt w (w1.alloc (.cells #[.int .i64 0, .int .i64 0, .int .i64 0, .int .i64 0, .int .i64 0, .slice none 0 0, .string ⟨#[]⟩] 24)) ob rb w1.heap.size 0 0 0 0 0 ⟨#[]⟩ [] (.slice none 0 0)) := Lib.hid
    ⟨HQ.out.keep hb3 HQ.out.lt, HR.out.keep hb3 HR.out.lt, hn3, ⟨rfl, .inl ⟨rfl, rfl⟩⟩, HB.out.trans (hb3.mono HB.out.size), Nat.le_trans HB.out.size hb3.size, ⟨HNE.out.2.2, HNE.out.1, HB.out.size, HNE.out.2.1, Nat.ne_of_lt HQ.out.lt, Nat.ne_of_lt HR.out.lt⟩⟩
  clear hn3 hb3 HQ HR HB HNE
  obtain ⟨nb, hnb⟩ : ∃ nb, nb = w1.heap.size := ⟨_, rfl⟩
  rw [← hnb] at HT ⊢
  clear hnb
  generalize w1.alloc (.cells #[.int .i64 0, .int .i64 0, .int .i64 0, .int .i64 0, .int .i64 0, .slice none 0 0, .string ⟨#[]⟩] 24) = w2 at *
  have hd0 : s.data.toList.head? = some (s.data.toList.getD 0 0) := by
    rw [Lib.size_eq] at hk0
    rcases hl : s.data.toList with _ | ⟨x, l⟩
    · rw [hl] at hk0; exact absurd hk0 (by decide)
    · rfl
  obtain ⟨x0, hx0⟩ : ∃ x0, x0 = s.data.toList.getD 0 0 := ⟨_, rfl⟩
  rw [← hx0] at hg hd0
  have HD0 := Lib.hid hd0
  have HI : Hid (1 ≤ s.size) := Lib.hid hk0
  clear hx0 hd0
  go_upto_region 8 with fail
  clear hg hse hk0
  have hx : x0 = 84 := Option.some.inj (HD0.out.symm.trans hd)
  have h66 : ¬ x0 = 66 := by rw [hx]; decide
  have h87 : ¬ x0 = 87 := by rw [hx]; decide
  have h76 : ¬ x0 = 76 := by rw [hx]; decide
  have hq66 : ((x0.toNat : Int) == 66) = false := byte_ne (k := 66) (by decide) h66
  go_upto_region 22 with fail
  clear hq66
  have hq87 : ((x0.toNat : Int) == 87) = false := byte_ne (k := 87) (by decide) h87
  go_upto_region 35 with fail
  clear hq87
  have hq76 : ((x0.toNat : Int) == 76) = false := byte_ne (k := 76) (by decide) h76
  go_upto_region 61 with fail
  clear hq76
  by_cases h84 : x0 = 84
  · have hq84 : ((x0.toNat : Int) == 84) = true := byte_eq (k := 84) (by decide) h84
    obtain ⟨fr, hfr⟩ : ∃ fr, fr = 2 := ⟨_, rfl⟩
    have HRO : Hid (ruleO s.data.toList = wantO s.data.toList 1 32 (if lrs s.data.toList fr 26 = 0 then .bad fr else endO s.data.toList (fr + lrs s.data.toList fr 26) (.ok 3 0 0 0 0 [] ((s.data.toList.drop fr).take (lrs s.data.toList fr 26))))) := Lib.hid (by rw [hfr]; unfold ruleO; rw [if_neg (by rw [HD0.out]; intro h; exact h66 (Option.some.inj h)), if_neg (by rw [HD0.out]; intro h; exact h87 (Option.some.inj h)), if_neg (by rw [HD0.out]; intro h; exact h76 (Option.some.inj h)), if_pos (by rw [HD0.out, h84])])
    have HFR := Lib.hid hfr
    clear h66 h87 h76 h84 HD0 hfr
    go_upto_region 62 with fail
    clear hq84
    by_cases hwc : 1 < s.data.toList.length ∧ s.data.toList.getD (1) 0 = 32
    rotate_left
    · have HBD := Lib.hid (HRO.out.trans (wantO_bad hwc))
      by_cases hks : 1 < s.size
      · have hki : ¬ (s.size : Int) ≤ ((1 : Nat) : Int) := by omega
        have hg := get_drop s hks
        obtain ⟨x, hx⟩ : ∃ x, x = s.data.toList.getD (1) 0 := ⟨_, rfl⟩
        rw [← hx] at hg hwc
        have hne : x ≠ UInt8.ofNat 32 := fun e => hwc ⟨by rw [← Lib.size_eq]; exact hks, e⟩
        have hq := byte_ne (k := 32) (by decide) hne
        have hq2 : ((x.toNat : Int) != 32) = true := congrArg not hq
        clear hx hwc hne
        have l5 := row_range HT.out.z
        have hr5 := HT.out.r
        go_wp2_with (first | (refine wpList_load_mid rfl 24 _ rfl nb 0 rfl _ _ l5 Tryd.underlying24 rfl infoRul ?_) | (refine Ops.wpList_store_arr rfl 24 _ _ rfl rb rfl 24 _ (rbox 0 0 0 0 0 (.slice none 0 0) ⟨#[]⟩) rfl hr5 rfl infoRul (rbox_one _ _ _ _ _ _ _ _ _) ?_; intro w5 hr9 ho9))
        refine bodyPost_ret (results_rule3 (t := 2) (u := 3) (v := 4) (e := .int .i64 (((1 : Nat) : Int))) (f := .bool false) rfl _ _ hr9 rfl rfl rfl rfl) rfl ⟨paQ_bad HBD.out, HT.out.bl.trans (ho9.below HT.out.ne.2.1)⟩
      · have hki : (s.size : Int) ≤ ((1 : Nat) : Int) := by omega
        clear hwc hks
        have l5 := row_range HT.out.z
        have hr5 := HT.out.r
        go_wp2_with (first | (refine wpList_load_mid rfl 24 _ rfl nb 0 rfl _ _ l5 Tryd.underlying24 rfl infoRul ?_) | (refine Ops.wpList_store_arr rfl 24 _ _ rfl rb rfl 24 _ (rbox 0 0 0 0 0 (.slice none 0 0) ⟨#[]⟩) rfl hr5 rfl infoRul (rbox_one _ _ _ _ _ _ _ _ _) ?_; intro w5 hr9 ho9))
        refine bodyPost_ret (results_rule3 (t := 2) (u := 3) (v := 4) (e := .int .i64 (((1 : Nat) : Int))) (f := .bool false) rfl _ _ hr9 rfl rfl rfl rfl) rfl ⟨paQ_bad HBD.out, HT.out.bl.trans (ho9.below HT.out.ne.2.1)⟩
    have hks : 1 < s.size := by rw [Lib.size_eq]; exact hwc.1
    have hki : ¬ (s.size : Int) ≤ ((1 : Nat) : Int) := by omega
    have hg := get_drop s hks
    rw [hwc.2] at hg
    have HRO := Lib.hid (HRO.out.trans (wantO_ok hwc))
    have HKS := Lib.hid hks
    clear hwc
    go_upto_region 64 with fail
    clear hki hg hks
    have HI : Hid (fr ≤ s.size) := Lib.hid (by rw [HFR.out]; exact HKS.out)
    have efr2 : (2 : Int) = ((fr : Nat) : Int) := by rw [HFR.out]; rfl
    go_upto_block 5 with fail
    first | rw [efr2] | skip
    clear efr2
    apply rq_lr (w := w2) (s := s) (i := fr)
    case hs => exact HSZ.out
    case hi => exact HI.out
    case hnext =>
    intro u254 u255 u256 u257 u258 u259 u260 u261 u262 u263 u264 u265 u266 u267 u268 u269 u270 u271 u272 u273 u274 u275 u276 u277 w3 hw
    subst hw
    have hll := (lrs_le s.data.toList 26 fr)
    obtain ⟨n, hn⟩ : ∃ n, n = lrs s.data.toList fr 26 := ⟨_, rfl⟩
    rw [← hn] at HRO hll ⊢
    obtain ⟨z, hz⟩ : ∃ z, z = fr + n := ⟨_, rfl⟩
    rw [← hz] at HRO ⊢
    have HZE := Lib.hid hz
    have HZL : Hid (z ≤ s.size) := Lib.hid (by have h := hll.2 (by rw [← Lib.size_eq]; exact HI.out); rw [← Lib.size_eq] at h; omega)
    clear hn hll hz
    by_cases hn0 : n = 0
    · have hzf : ((z : Int) == (fr : Int)) = true := by rw [beq_iff_eq]; have := HZE.out; omega
      have HBD : Hid (ruleO s.data.toList = .bad z) := Lib.hid (by rw [HRO.out, if_pos hn0, show z = fr by have := HZE.out; omega])
      clear hn0
      have l5 := row_range HT.out.z
      have hr5 := HT.out.r
      go_wp2_with (first | (refine wpList_load_mid rfl 24 _ rfl nb 0 rfl _ _ l5 Tryd.underlying24 rfl infoRul ?_) | (refine Ops.wpList_store_arr rfl 24 _ _ rfl rb rfl 24 _ (rbox 0 0 0 0 0 (.slice none 0 0) ⟨#[]⟩) rfl hr5 rfl infoRul (rbox_one _ _ _ _ _ _ _ _ _) ?_; intro w5 hr9 ho9))
      refine bodyPost_ret (results_rule3 (t := 2) (u := 3) (v := 4) (e := .int .i64 (((z : Nat) : Int))) (f := .bool false) rfl _ _ hr9 rfl rfl rfl rfl) rfl ⟨paQ_bad HBD.out, HT.out.bl.trans (ho9.below HT.out.ne.2.1)⟩
    have hzf : ((z : Int) == (fr : Int)) = false := by rw [beq_eq_false_iff_ne]; have := HZE.out; omega
    have HRO := Lib.hid (HRO.out.trans (if_neg hn0))
    clear hn0
    go_upto_region 70 with fail
    clear hzf
    have z0 := HT.out.q.frozen 0
    have g0 := HT.out.q.cell 0
    unfold rbox at g0
    dsimp only [List.getElem?_cons_succ, List.getElem?_cons_zero] at g0
    go_upto_region 71 with fail
    clear z0 g0
    have HT := Lib.hid (HT.out.set0 (3))
    generalize w3.setCell ⟨ob, 0, none⟩ (.int .i64 (3)) = w4 at *
    have hle1 : (fr : Int) ≤ (z : Int) := by have := HZE.out; omega
    have hle2 : (z : Int) ≤ (s.size : Int) := by have := HZL.out; omega
    have z6 := HT.out.q.frozen 6
    have g6 := HT.out.q.cell 6
    unfold rbox at g6
    dsimp only [List.getElem?_cons_succ, List.getElem?_cons_zero] at g6
    go_upto_region 72 with fail
    clear z6 g6 hle1 hle2
    have HT := Lib.hid (HT.out.set6 (s.extract fr z))
    generalize w4.setCell ⟨ob, 6, none⟩ (.string (s.extract fr z)) = w5 at *
    have hex : s.extract fr z = ⟨((s.data.toList.drop fr).take n).toArray⟩ := ext_two (by have := HZE.out; omega)
    rw [hex] at HT
    clear hex
    by_cases hlt : z < s.size
    · have hli : ((z : Nat) : Int) < (s.size : Int) := by omega
      have HBD := Lib.hid (HRO.out.trans (endO_bad hlt))
      clear hlt
      have l5 := row_range HT.out.z
      have hr5 := HT.out.r
      go_wp2_with (first | (refine wpList_load_mid rfl 24 _ rfl nb 0 rfl _ _ l5 Tryd.underlying24 rfl infoRul ?_) | (refine Ops.wpList_store_arr rfl 24 _ _ rfl rb rfl 24 _ (rbox 0 0 0 0 0 (.slice none 0 0) ⟨#[]⟩) rfl hr5 rfl infoRul (rbox_one _ _ _ _ _ _ _ _ _) ?_; intro w5 hr9 ho9))
      refine bodyPost_ret (results_rule3 (t := 2) (u := 3) (v := 4) (e := .int .i64 (((z : Nat) : Int))) (f := .bool false) rfl _ _ hr9 rfl rfl rfl rfl) rfl ⟨paQ_bad HBD.out, HT.out.bl.trans (ho9.below HT.out.ne.2.1)⟩
    have hli : ¬ ((z : Nat) : Int) < (s.size : Int) := by omega
    have HRO := Lib.hid (HRO.out.trans (endO_ok hlt))
    clear hlt
    have HQ := Lib.hid HT.out.q
    have HR2 := Lib.hid HT.out.r
    have HOW := Lib.hid HT.out.o
    have HNE := Lib.hid HT.out.ne
    have HBL2 := Lib.hid HT.out.bl
    clear HT
    obtain ⟨av, cv, hve, _⟩ := own_is HOW.out
    try subst hve
    have l5 := row_range HQ.out
    have hr5 := HR2.out
    go_wp2_with (first | (refine wpList_load_mid rfl 24 _ rfl ob 0 rfl _ _ l5 Tryd.underlying24 rfl infoRul ?_) | (refine Ops.wpList_store_arr rfl 24 _ _ rfl rb rfl 24 _ _ rfl hr5 rfl infoRul (rbox_one _ _ _ _ _ _ _ _ _) ?_; intro w5 hr9 ho9))
    refine bodyPost_ret (results_rule3 (t := 2) (u := 3) (v := 4) (e := .int .i64 0) (f := .bool true) rfl _ _ hr9 rfl rfl rfl rfl) rfl ⟨paQ_ok HRO.out rfl ?_, HBL2.out.trans (ho9.below HNE.out.2.1)⟩
    obtain ⟨_, _, hve2, _, _, his, _⟩ := own_is (own_only HOW.out ho9 (own_ne HOW.out HR2.out (by decide)))
    cases hve2
    exact his
  exact absurd hx h84
set_option maxHeartbeats 16000000 in
set_option maxRecDepth 1000000 in
theorem rparse_N (s : ByteArray) (w : World) (hs : s.size ≤ 9223372036854775807) (n66 : ¬ s.data.toList.head? = some 66) (n87 : ¬ s.data.toList.head? = some 87) (n76 : ¬ s.data.toList.head? = some 76) (n84 : ¬ s.data.toList.head? = some 84) : Calls Tryd.prog 8 #[.string s] w fun e w' => PaQ s.data.toList e w' ∧ Below w.heap.size w w' := by
  have HSZ := Lib.hid hs
  clear hs
  go_enter Tryd.func8, Tryd.ntmps8
  go_upto_region 2 with fail
  obtain ⟨hr5, hr8, hb2⟩ := two_new w 24 24 (rbox 0 0 0 0 0 (.slice none 0 0) ⟨#[]⟩) (rbox 0 0 0 0 0 (.slice none 0 0) ⟨#[]⟩)
  have HR : Hid (Row ((w.alloc (.cells #[.int .i64 0, .int .i64 0, .int .i64 0, .int .i64 0, .int .i64 0, .slice none 0 0, .string ⟨#[]⟩] 24)).alloc (.cells #[.int .i64 0, .int .i64 0, .int .i64 0, .int .i64 0, .int .i64 0, .slice none 0 0, .string ⟨#[]⟩] 24)) w.heap.size 24 (rbox 0 0 0 0 0 (.slice none 0 0) ⟨#[]⟩)) := Lib.hid hr5
  have HQ : Hid (Row ((w.alloc (.cells #[.int .i64 0, .int .i64 0, .int .i64 0, .int .i64 0, .int .i64 0, .slice none 0 0, .string ⟨#[]⟩] 24)).alloc (.cells #[.int .i64 0, .int .i64 0, .int .i64 0, .int .i64 0, .int .i64 0, .slice none 0 0, .string ⟨#[]⟩] 24)) (w.heap.size + 1) 24 (rbox 0 0 0 0 0 (.slice none 0 0) ⟨#[]⟩)) := Lib.hid hr8
  have HB : Hid (Below w.heap.size w ((w.alloc (.cells #[.int .i64 0, .int .i64 0, .int .i64 0, .int .i64 0, .int .i64 0, .slice none 0 0, .string ⟨#[]⟩] 24)).alloc (.cells #[.int .i64 0, .int .i64 0, .int .i64 0, .int .i64 0, .int .i64 0, .slice none 0 0, .string ⟨#[]⟩] 24))) := Lib.hid hb2
  clear hr5 hr8 hb2
  generalize (w.alloc (.cells #[.int .i64 0, .int .i64 0, .int .i64 0, .int .i64 0, .int .i64 0, .slice none 0 0, .string ⟨#[]⟩] 24)).alloc (.cells #[.int .i64 0, .int .i64 0, .int .i64 0, .int .i64 0, .int .i64 0, .slice none 0 0, .string ⟨#[]⟩] 24) = w1 at *
  obtain ⟨rb, hrb⟩ : ∃ rb, rb = w.heap.size := ⟨_, rfl⟩
  rw [← hrb] at HR HQ ⊢
  obtain ⟨ob, hob⟩ : ∃ ob, ob = rb + 1 := ⟨_, rfl⟩
  rw [← hob] at HQ ⊢
  have HNE : Hid (w.heap.size ≤ rb ∧ ob ≠ rb ∧ w.heap.size ≤ ob) := Lib.hid (by omega)
  clear hrb hob
  by_cases hs0 : s.size = 0
  · have hse : s = ⟨#[]⟩ := by
      have h := s.size_eq_zero_iff.1 hs0
      exact h
    have HBD : Hid (ruleO s.data.toList = .bad 0) := Lib.hid (by rw [hse]; rfl)
    have hse : s.toList.isEmpty = true := by rw [Lib.toList_data, hse]; rfl
    have l5 := row_range HQ.out
    have hr5 := HR.out
    go_wp2_with (first | (refine wpList_load_mid rfl 24 _ rfl ob 0 rfl _ _ l5 Tryd.underlying24 rfl infoRul ?_) | (refine Ops.wpList_store_arr rfl 24 _ _ rfl rb rfl 24 _ (rbox 0 0 0 0 0 (.slice none 0 0) ⟨#[]⟩) rfl hr5 rfl infoRul (rbox_one _ _ _ _ _ _ _ _ _) ?_; intro w5 hr9 ho9))
    refine bodyPost_ret (results_rule3 (t := 2) (u := 3) (v := 4) (e := .int .i64 (((0 : Nat) : Int))) (f := .bool false) rfl _ _ hr9 rfl rfl rfl rfl) rfl ⟨paQ_bad HBD.out, HB.out.trans (ho9.below HNE.out.1)⟩
  have hse := str_ne hs0
  have hk0 : 0 < s.size := by omega
  have hg := get_drop s hk0
  have HK0 := Lib.hid hk0
  clear hs0
  go_upto_region 5 with fail
  have hn3 := row_alloc w1 24 (rbox 0 0 0 0 0 (.slice none 0 0) ⟨#[]⟩)
  have hb3 : Below w1.heap.size w1 (w1.alloc (.cells (rbox 0 0 0 0 0 (.slice none 0 0) ⟨#[]⟩).toArray 24)) := (Below.refl _ _).alloc (Nat.le_refl _) _
  have HT : Hid (QSt w (w1.alloc (.cells #[.int .i64 0, .int .i64 0, .int .i64 0, .int .i64 0, .int .i64 0, .slice none 0 0, .string ⟨#[]⟩] 24)) ob rb w1.heap.size 0 0 0 0 0 ⟨#[]⟩ [] (.slice none 0 0)) := Lib.hid
    ⟨HQ.out.keep hb3 HQ.out.lt, HR.out.keep hb3 HR.out.lt, hn3, ⟨rfl, .inl ⟨rfl, rfl⟩⟩, HB.out.trans (hb3.mono HB.out.size), Nat.le_trans HB.out.size hb3.size, ⟨HNE.out.2.2, HNE.out.1, HB.out.size, HNE.out.2.1, Nat.ne_of_lt HQ.out.lt, Nat.ne_of_lt HR.out.lt⟩⟩
  clear hn3 hb3 HQ HR HB HNE
  obtain ⟨nb, hnb⟩ : ∃ nb, nb = w1.heap.size := ⟨_, rfl⟩
  rw [← hnb] at HT ⊢
  clear hnb
  generalize w1.alloc (.cells #[.int .i64 0, .int .i64 0, .int .i64 0, .int .i64 0, .int .i64 0, .slice none 0 0, .string ⟨#[]⟩] 24) = w2 at *
  have hd0 : s.data.toList.head? = some (s.data.toList.getD 0 0) := by
    rw [Lib.size_eq] at hk0
    rcases hl : s.data.toList with _ | ⟨x, l⟩
    · rw [hl] at hk0; exact absurd hk0 (by decide)
    · rfl
  obtain ⟨x0, hx0⟩ : ∃ x0, x0 = s.data.toList.getD 0 0 := ⟨_, rfl⟩
  rw [← hx0] at hg hd0
  have HD0 := Lib.hid hd0
  have HI : Hid (1 ≤ s.size) := Lib.hid hk0
  clear hx0 hd0
  go_upto_region 8 with fail
  clear hg hse hk0
  have h66 : ¬ x0 = 66 := fun e => n66 (by rw [HD0.out, e])
  have h87 : ¬ x0 = 87 := fun e => n87 (by rw [HD0.out, e])
  have h76 : ¬ x0 = 76 := fun e => n76 (by rw [HD0.out, e])
  have h84 : ¬ x0 = 84 := fun e => n84 (by rw [HD0.out, e])
  clear n66 n87 n76 n84
  have hq66 : ((x0.toNat : Int) == 66) = false := byte_ne (k := 66) (by decide) h66
  go_upto_region 22 with fail
  clear hq66
  have hq87 : ((x0.toNat : Int) == 87) = false := byte_ne (k := 87) (by decide) h87
  go_upto_region 35 with fail
  clear hq87
  have hq76 : ((x0.toNat : Int) == 76) = false := byte_ne (k := 76) (by decide) h76
  go_upto_region 61 with fail
  clear hq76
  have hq84 : ((x0.toNat : Int) == 84) = false := byte_ne (k := 84) (by decide) h84
  have HBD : Hid (ruleO s.data.toList = .bad 0) := Lib.hid (by unfold ruleO; rw [if_neg (by rw [HD0.out]; intro h; exact h66 (Option.some.inj h)), if_neg (by rw [HD0.out]; intro h; exact h87 (Option.some.inj h)), if_neg (by rw [HD0.out]; intro h; exact h76 (Option.some.inj h)), if_neg (by rw [HD0.out]; intro h; exact h84 (Option.some.inj h))])
  clear h66 h87 h76 h84 HD0
  have l5 := row_range HT.out.z
  have hr5 := HT.out.r
  go_wp2_with (first | (refine wpList_load_mid rfl 24 _ rfl nb 0 rfl _ _ l5 Tryd.underlying24 rfl infoRul ?_) | (refine Ops.wpList_store_arr rfl 24 _ _ rfl rb rfl 24 _ (rbox 0 0 0 0 0 (.slice none 0 0) ⟨#[]⟩) rfl hr5 rfl infoRul (rbox_one _ _ _ _ _ _ _ _ _) ?_; intro w5 hr9 ho9))
  refine bodyPost_ret (results_rule3 (t := 2) (u := 3) (v := 4) (e := .int .i64 (((0 : Nat) : Int))) (f := .bool false) rfl _ _ hr9 rfl rfl rfl rfl) rfl ⟨paQ_bad HBD.out, HT.out.bl.trans (ho9.below HT.out.ne.2.1)⟩
theorem rparse_any (s : ByteArray) (w : World) (hs : s.size ≤ 9223372036854775807) : Calls Tryd.prog 8 #[.string s] w fun e w' => PaQ s.data.toList e w' ∧ Below w.heap.size w w' := by
  by_cases h1 : s.data.toList.head? = some 66
  · exact rparse_B s w hs h1
  by_cases h2 : s.data.toList.head? = some 87
  · exact rparse_W s w hs h2
  by_cases h3 : s.data.toList.head? = some 76
  · exact rparse_L s w hs h3
  by_cases h4 : s.data.toList.head? = some 84
  · exact rparse_T s w hs h4
  exact rparse_N s w hs h1 h2 h3 h4
end Pr
end Go.Proofs.YtgagophijmiceaaDoor
