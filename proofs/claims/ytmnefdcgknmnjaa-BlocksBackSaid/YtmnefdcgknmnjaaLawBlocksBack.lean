/- THE LAW BlocksBack: its walk, out of its callees' contracts. -/
import Derived.Test.YtmnefdcgknmnjaaBlC
namespace Go.Proofs.Ytmnefdcgknmnjaa
set_option linter.unusedSimpArgs false
set_option linter.unusedVariables false
open Go.RowKit Go.Lib
namespace Bl
open Tld Mem
set_option maxHeartbeats 8000000 in
set_option maxRecDepth 1000000 in
theorem blocksBack_fault (ta : Option Addr) (tn tc : Nat) (tz : List Int) (W H : Int) (a : Option Addr) (n c : Nat) (zs : List Int) (ph m : Int) (w : World) (hT : Ints.Is w ta tn tz) (hP : Ints.Is w a n zs) (hnil : a = none → n = 0) (hf : rfault tz W H zs ph m ≠ 0) :
    Calls Try.prog 3 #[.slice ta tn tc, .agg #[.int .i64 W, .int .i64 H, .slice a n c], .int .i64 ph, .int .i64 m] w fun e w' => e = .returned (.bool true) ∧ Below w.heap.size w w' := by
  have HT := Lib.hid hT
  have HP := Lib.hid hP
  have HNIL := Lib.hid hnil
  have HF := Lib.hid hf
  clear hT hP hnil hf
  go_enter Try.func3, Try.ntmps3
  go_wp2_with fail
  obtain ⟨hR5, hRF, hB⟩ := two_new w 24 3 (boxP W H a n c) (fact0.map (Value.int .i64))
  have HR5 : Hid (Row ((w.alloc (.cells #[.int .i64 W, .int .i64 H, .slice a n c] 24)).alloc (.cells #[.int .i64 0, .int .i64 8, .int .i64 4, .int .i64 3, .int .i64 2, .int .i64 5, .int .i64 9, .int .i64 7, .int .i64 1, .int .i64 6, .int .i64 10, .int .i64 11, .int .i64 12, .int .i64 13, .int .i64 14, .int .i64 15] 3)) w.heap.size 24 (boxP W H a n c)) := hR5
  have HRF : Hid (Ints.Is ((w.alloc (.cells #[.int .i64 W, .int .i64 H, .slice a n c] 24)).alloc (.cells #[.int .i64 0, .int .i64 8, .int .i64 4, .int .i64 3, .int .i64 2, .int .i64 5, .int .i64 9, .int .i64 7, .int .i64 1, .int .i64 6, .int .i64 10, .int .i64 11, .int .i64 12, .int .i64 13, .int .i64 14, .int .i64 15] 3)) (some ⟨w.heap.size + 1, 0, none⟩) 16 fact0) := row_is hRF rfl (by decide)
  have HB : Hid (Below w.heap.size w ((w.alloc (.cells #[.int .i64 W, .int .i64 H, .slice a n c] 24)).alloc (.cells #[.int .i64 0, .int .i64 8, .int .i64 4, .int .i64 3, .int .i64 2, .int .i64 5, .int .i64 9, .int .i64 7, .int .i64 1, .int .i64 6, .int .i64 10, .int .i64 11, .int .i64 12, .int .i64 13, .int .i64 14, .int .i64 15] 3))) := hB
  clear hR5 hRF hB
  generalize (w.alloc (.cells #[.int .i64 W, .int .i64 H, .slice a n c] 24)).alloc (.cells #[.int .i64 0, .int .i64 8, .int .i64 4, .int .i64 3, .int .i64 2, .int .i64 5, .int .i64 9, .int .i64 7, .int .i64 1, .int .i64 6, .int .i64 10, .int .i64 11, .int .i64 12, .int .i64 13, .int .i64 14, .int .i64 15] 3) = w1 at *
  obtain ⟨b5, hb5⟩ : ∃ b5, b5 = w.heap.size := ⟨_, rfl⟩
  rw [← hb5] at HR5 HRF ⊢
  have HB5 := Lib.hid hb5
  clear hb5
  refine (back_ok _ 16 16 fact0 w1 HRF.out fact0_zero).mono ?_
  rintro e2 w2 ⟨⟨hno, _⟩ | ⟨_, bf, hbf, rfl, hRf⟩, hb2⟩
  · exact absurd fact0_once hno
  have hc8 := (hRf.cell 8).trans fact0_eight
  have HR5 := Lib.hid (HR5.out.keep hb2 HR5.out.lt)
  have HB := Lib.hid (HB.out.trans (hb2.mono HB.out.size))
  clear HRF hRf hb2 hbf
  have l5 := row_range HR5.out
  go_wp2_with (refine wpList_load_mid rfl 24 _ rfl b5 0 rfl _ _ l5 Try.underlying24 rfl infoPatA ?_)
  refine (run_fault ta tn tc tz W H a n c zs ph m w2 (HT.out.keep HB.out).cells (HT.out).len (by have := HT.out.le; unfold maxLen at this; omega) (HP.out.keep HB.out).cells HP.out.len (by have := HP.out.le; unfold maxLen at this; omega) HF.out).mono ?_
  rintro e3 w3 ⟨rfl, hb3⟩
  rw [errV_some HF.out]
  have HB := Lib.hid (HB.out.trans (hb3.mono HB.out.size))
  clear hb3 l5 hc8 HR5
  unfold pat
  go_wp2_with fail
  go_ret
  exact ⟨rfl, HB.out.alloc (HB.out.size) _⟩
set_option maxHeartbeats 8000000 in
set_option maxRecDepth 1000000 in
theorem blocksBack_ok (ta : Option Addr) (tn tc : Nat) (tz : List Int) (W H : Nat) (a : Option Addr) (n c : Nat) (cf : Nat → Nat → Nat) (ph m : Nat) (w : World) (hT : Ints.Is w ta tn tz) (ht : tfault tz = 0) (hP : Ints.Is w a n (flat W H cf)) (hnil : a = none → n = 0) (hn : n = W * H)
    (hW : W ≤ 100) (hH : H ≤ 100) (hW2 : W % 2 = 0) (hH2 : H % 2 = 0) (hc : ∀ x y, cf x y < 2) (hph : ph ≤ 1) (hm : m ≤ 100000) :
    Calls Try.prog 3 #[.slice ta tn tc, .agg #[.int .i64 W, .int .i64 H, .slice a n c], .int .i64 ph, .int .i64 m] w fun e w' => e = .returned (.bool true) ∧ Below w.heap.size w w' := by
  have HT := Lib.hid hT
  have HTF := Lib.hid ht
  have HP := Lib.hid hP
  have HNIL := Lib.hid hnil
  have HN := Lib.hid hn
  have HW2 := Lib.hid hW2
  have HH2 := Lib.hid hH2
  have HC := Lib.hid hc
  have HRC := Lib.hid (run_lt (t := tN tz) (W := W) (H := H) (ph := ph) hc m)
  have hn1 : n ≤ 10000 := by
    have : W * H ≤ 100 * 100 := Nat.mul_le_mul hW hH
    omega
  clear hT ht hP hnil hn hW2 hH2 hc
  go_enter Try.func3, Try.ntmps3
  go_wp2_with fail
  obtain ⟨hR5, hRF, hB⟩ := two_new w 24 3 (boxP W H a n c) (fact0.map (Value.int .i64))
  have HR5 : Hid (Row ((w.alloc (.cells #[.int .i64 W, .int .i64 H, .slice a n c] 24)).alloc (.cells #[.int .i64 0, .int .i64 8, .int .i64 4, .int .i64 3, .int .i64 2, .int .i64 5, .int .i64 9, .int .i64 7, .int .i64 1, .int .i64 6, .int .i64 10, .int .i64 11, .int .i64 12, .int .i64 13, .int .i64 14, .int .i64 15] 3)) w.heap.size 24 (boxP W H a n c)) := hR5
  have HRF : Hid (Ints.Is ((w.alloc (.cells #[.int .i64 W, .int .i64 H, .slice a n c] 24)).alloc (.cells #[.int .i64 0, .int .i64 8, .int .i64 4, .int .i64 3, .int .i64 2, .int .i64 5, .int .i64 9, .int .i64 7, .int .i64 1, .int .i64 6, .int .i64 10, .int .i64 11, .int .i64 12, .int .i64 13, .int .i64 14, .int .i64 15] 3)) (some ⟨w.heap.size + 1, 0, none⟩) 16 fact0) := row_is hRF rfl (by decide)
  have HB : Hid (Below w.heap.size w ((w.alloc (.cells #[.int .i64 W, .int .i64 H, .slice a n c] 24)).alloc (.cells #[.int .i64 0, .int .i64 8, .int .i64 4, .int .i64 3, .int .i64 2, .int .i64 5, .int .i64 9, .int .i64 7, .int .i64 1, .int .i64 6, .int .i64 10, .int .i64 11, .int .i64 12, .int .i64 13, .int .i64 14, .int .i64 15] 3))) := hB
  clear hR5 hRF hB
  generalize (w.alloc (.cells #[.int .i64 W, .int .i64 H, .slice a n c] 24)).alloc (.cells #[.int .i64 0, .int .i64 8, .int .i64 4, .int .i64 3, .int .i64 2, .int .i64 5, .int .i64 9, .int .i64 7, .int .i64 1, .int .i64 6, .int .i64 10, .int .i64 11, .int .i64 12, .int .i64 13, .int .i64 14, .int .i64 15] 3) = w1 at *
  obtain ⟨b5, hb5⟩ : ∃ b5, b5 = w.heap.size := ⟨_, rfl⟩
  rw [← hb5] at HR5 HRF ⊢
  have HB5 := Lib.hid hb5
  clear hb5
  refine (back_ok _ 16 16 fact0 w1 HRF.out fact0_zero).mono ?_
  rintro e2 w2 ⟨⟨hno, _⟩ | ⟨_, bf, hbf, rfl, hRf⟩, hb2⟩
  · exact absurd fact0_once hno
  have hc8 := (hRf.cell 8).trans fact0_eight
  have HR5 := Lib.hid (HR5.out.keep hb2 HR5.out.lt)
  have HB := Lib.hid (HB.out.trans (hb2.mono HB.out.size))
  clear HRF hRf hb2 hbf
  have l5 := row_range HR5.out
  go_wp2_with (refine wpList_load_mid rfl 24 _ rfl b5 0 rfl _ _ l5 Try.underlying24 rfl infoPatA ?_)
  refine (run_flat ta tn tc tz W H a n c cf ph m w2 (HT.out.keep HB.out) HTF.out (HP.out.keep HB.out) HNIL.out HN.out hW hH HW2.out HH2.out HC.out hph hm).mono ?_
  rintro e3 w3 ⟨⟨a3, c3, rfl, hnil3, hI3⟩, hb3⟩
  have HR5 := Lib.hid (HR5.out.keep hb3 HR5.out.lt)
  have HB := Lib.hid (HB.out.trans (hb3.mono HB.out.size))
  have HI3 := Lib.hid hI3
  have HNIL3 := Lib.hid hnil3
  clear hb3 l5 hc8 hI3 hnil3
  go_wp2_with fail
  obtain ⟨hr0, hb0⟩ := row_new w3 W H a3 n c3
  have HR11 := Lib.hid hr0
  have HR5 := Lib.hid (HR5.out.keep hb0 HR5.out.lt)
  have HI3 := Lib.hid (HI3.out.keep hb0)
  have HB := Lib.hid (HB.out.trans (hb0.mono HB.out.size))
  clear hb0
  clear hr0
  generalize w3.alloc (.cells #[.int .i64 W, .int .i64 H, .slice a3 n c3] 24) = w4 at *
  obtain ⟨b11, hb11⟩ : ∃ b, b = w3.heap.size := ⟨_, rfl⟩
  rw [← hb11] at HR11 ⊢
  clear hb11
  obtain ⟨k, hk⟩ : ∃ k, k = keepsB tz := ⟨_, rfl⟩
  obtain ⟨x, hx⟩ : ∃ x, x = cnt (flat W H cf) := ⟨_, rfl⟩
  obtain ⟨y, hy⟩ : ∃ y, y = cnt (flat W H (run (tN tz) W H ph cf m)) := ⟨_, rfl⟩
  have HXY : Hid (k = true → y = x) := fun e => by rw [hx, hy]; exact kept HTF.out (by rw [← hk]; exact e) HW2.out HH2.out HC.out
  have HKC := Lib.hid (fun w2 (h2 : Below w.heap.size w w2) => keeps_ok ta tn tc tz w2 (HT.out.keep h2) HTF.out)
  have HXC := Lib.hid (fun w2 (h2 : Below w.heap.size w w2) => count_any W H a n c (flat W H cf) w2 (HP.out.keep h2) (flat_01 HC.out) hn1)
  have HYC := Lib.hid (fun w2 (h2 : Ints.Is w2 a3 n (flat W H (run (tN tz) W H ph cf m))) => count_any W H a3 n c3 _ w2 h2 (flat_01 HRC.out) hn1)
  rw [← hk] at HKC
  rw [← hx] at HXC
  rw [← hy] at HYC
  clear hk hx hy
  refine (HKC.out _ HB.out).mono ?_
  rintro e0 w5 ⟨rfl, hb9⟩
  have HR5 := Lib.hid (HR5.out.keep hb9 HR5.out.lt)
  have HI3 := Lib.hid (HI3.out.keep hb9)
  have HR11 := Lib.hid (HR11.out.keep hb9 HR11.out.lt)
  have HB := Lib.hid (HB.out.trans (hb9.mono HB.out.size))
  clear hb9
  have l5 := row_range HR5.out
  go_wp2_with (refine wpList_load_mid rfl 24 _ rfl b5 0 rfl _ _ l5 Try.underlying24 rfl infoPatA ?_)
  refine (HXC.out _ HB.out).mono ?_
  rintro e0 w6 ⟨rfl, hb9⟩
  clear l5
  have HR5 := Lib.hid (HR5.out.keep hb9 HR5.out.lt)
  have HI3 := Lib.hid (HI3.out.keep hb9)
  have HR11 := Lib.hid (HR11.out.keep hb9 HR11.out.lt)
  have HB := Lib.hid (HB.out.trans (hb9.mono HB.out.size))
  clear hb9
  have l11 := row_range HR11.out
  go_wp2_with (refine wpList_load_mid rfl 24 _ rfl b11 0 rfl _ _ l11 Try.underlying24 rfl infoPatA ?_)
  refine (HYC.out _ HI3.out).mono ?_
  rintro e0 w7 ⟨rfl, hb9⟩
  clear l11 HKC HXC HYC
  have HR5 := Lib.hid (HR5.out.keep hb9 HR5.out.lt)
  have HI3 := Lib.hid (HI3.out.keep hb9)
  have HR11 := Lib.hid (HR11.out.keep hb9 HR11.out.lt)
  have HB := Lib.hid (HB.out.trans (hb9.mono HB.out.size))
  clear hb9
  have hd : k = false ∨ (k = true ∧ y = x) := by
    cases k
    · exact .inl rfl
    · exact .inr ⟨rfl, HXY.out rfl⟩
  clear HXY
  rcases hd with rfl | ⟨rfl, rfl⟩
  all_goals
    obtain ⟨u, hu⟩ : ∃ u, u = turnsB tz := ⟨_, rfl⟩
    have HTC := Lib.hid (turns_ok ta tn tc tz w7 (HT.out.keep HB.out) HTF.out)
    have HTU : Hid (u = true → flat H W (run (tN tz) H W ph (turnC H cf) m) = flat H W (turnC H (run (tN tz) W H ph cf m))) := fun e => turned (by rw [← hu]; exact e) HW2.out HH2.out HC.out
    rw [← hu] at HTC
    clear hu
    go_upto_region 12 with fail
    go_wp2_with fail
    refine HTC.out.mono ?_
    rintro e0 w8 ⟨rfl, hb9⟩
    clear HTC
    have HR5 := Lib.hid (HR5.out.keep hb9 HR5.out.lt)
    have HI3 := Lib.hid (HI3.out.keep hb9)
    have HR11 := Lib.hid (HR11.out.keep hb9 HR11.out.lt)
    have HB := Lib.hid (HB.out.trans (hb9.mono HB.out.size))
    clear hb9
    have hd : u = false ∨ u = true := by cases u <;> simp
    rcases hd with rfl | rfl
    · skip
      go_wp2_with fail
      refine (back_ok ta tn tc tz w8 (HT.out.keep HB.out) HTF.out).mono ?_
      rintro e0 w20 ⟨⟨hno, rfl⟩ | ⟨hon, b8, hb8, rfl, hR8⟩, hb9⟩
      · rw [errV_some (by decide)]
        have HB := Lib.hid (HB.out.trans (hb9.mono HB.out.size))
        go_wp2_with fail
        go_ret
        exact ⟨rfl, HB.out⟩
      · have HON := Lib.hid hon
        have HI8 := Lib.hid (row_is hR8 inv_len (by decide))
        clear hR8 hb8 hon
        have HR5 := Lib.hid (HR5.out.keep hb9 HR5.out.lt)
        have HR11 := Lib.hid (HR11.out.keep hb9 HR11.out.lt)
        have HI3 := Lib.hid (HI3.out.keep hb9)
        have HB := Lib.hid (HB.out.trans (hb9.mono HB.out.size))
        clear hb9
        obtain ⟨p8, hp8⟩ : ∃ p8, p8 = (ph + m + 1) % 2 := ⟨_, rfl⟩
        have hp8t : ((ph : Int) + (m : Int) + 1).tmod 2 = (p8 : Int) := by
          rw [hp8, show ((ph : Int) + (m : Int) + 1) = ((ph + m + 1 : Nat) : Int) from by push_cast; rfl]; exact Int.ofNat_tmod _ _
        have hp81 : p8 ≤ 1 := by omega
        have HUN : Hid (flat W H (run (tN (inv tz 16)) W H p8 (run (tN tz) W H ph cf m) m) = flat W H cf) := by
          show _ = flat W H cf
          rw [hp8]; exact undone HTF.out HON.out HW2.out HH2.out HC.out
        clear hp8
        have l11 := row_range HR11.out
        go_wp2_with (refine wpList_load_mid rfl 24 _ rfl b11 0 rfl _ _ l11 Try.underlying24 rfl infoPatA ?_)
        clear l11 hp8t
        refine (run_flat _ 16 16 (inv tz 16) W H a3 n c3 (run (tN tz) W H ph cf m) p8 m w20 HI8.out inv_fault HI3.out HNIL3.out HN.out hW hH HW2.out HH2.out HRC.out hp81 hm).mono ?_
        rintro e0 w21 ⟨⟨a21, c21, rfl, hnil21, hI21⟩, hb9⟩
        rw [HUN.out] at hI21
        have HI21 := Lib.hid hI21
        clear hI21 hnil21 HR11 HI3 HI8 HUN
        have HR5 := Lib.hid (HR5.out.keep hb9 HR5.out.lt)
        have HB := Lib.hid (HB.out.trans (hb9.mono HB.out.size))
        clear hb9
        go_upto_region 26 with fail
        obtain ⟨hr0, hb0⟩ := row_new w21 W H a21 n c21
        have HR25 := Lib.hid hr0
        have HR5 := Lib.hid (HR5.out.keep hb0 HR5.out.lt)
        have HI21 := Lib.hid (HI21.out.keep hb0)
        have HB := Lib.hid (HB.out.trans (hb0.mono HB.out.size))
        clear hb0
        clear hr0
        generalize w21.alloc (.cells #[.int .i64 W, .int .i64 H, .slice a21 n c21] 24) = w22 at *
        obtain ⟨b25, hb25⟩ : ∃ b, b = w21.heap.size := ⟨_, rfl⟩
        rw [← hb25] at HR25 ⊢
        clear hb25
        have l5 := row_range HR5.out
        have l25 := row_range HR25.out
        go_wp2_with (first | (refine wpList_load_mid rfl 24 _ rfl b5 0 rfl _ _ l5 Try.underlying24 rfl infoPatA ?_) | (refine wpList_load_mid rfl 24 _ rfl b25 0 rfl _ _ l25 Try.underlying24 rfl infoPatA ?_))
        clear l5 l25
        refine (alike_flat W H a21 n c21 _ a c _ w22 HI21.out (HP.out.keep HB.out) rfl).mono ?_
        rintro e0 w23 ⟨rfl, hb9⟩
        have HB := Lib.hid (HB.out.trans (hb9.mono HB.out.size))
        clear hb9
        go_wp2_with fail
        go_ret
        exact ⟨rfl, HB.out⟩
    · skip
      have HTE := Lib.hid (HTU.out rfl)
      clear HTU
      have l5 := row_range HR5.out
      go_wp2_with (refine wpList_load_mid rfl 24 _ rfl b5 0 rfl _ _ l5 Try.underlying24 rfl infoPatA ?_)
      clear l5
      refine (turn_flat W H a n c cf w8 (HP.out.keep HB.out) HN.out hW hH HC.out).mono ?_
      rintro e0 w9 ⟨⟨a9, c9, rfl, hnil9, hI9⟩, hb9⟩
      have HI9 := Lib.hid hI9
      have HNIL9 := Lib.hid hnil9
      clear hI9 hnil9
      have HR5 := Lib.hid (HR5.out.keep hb9 HR5.out.lt)
      have HI3 := Lib.hid (HI3.out.keep hb9)
      have HR11 := Lib.hid (HR11.out.keep hb9 HR11.out.lt)
      have HB := Lib.hid (HB.out.trans (hb9.mono HB.out.size))
      clear hb9
      go_upto_region 17 with fail
      obtain ⟨hr0, hb0⟩ := row_new w9 H W a9 n c9
      have HR18 := Lib.hid hr0
      have HR5 := Lib.hid (HR5.out.keep hb0 HR5.out.lt)
      have HI3 := Lib.hid (HI3.out.keep hb0)
      have HR11 := Lib.hid (HR11.out.keep hb0 HR11.out.lt)
      have HI9 := Lib.hid (HI9.out.keep hb0)
      have HB := Lib.hid (HB.out.trans (hb0.mono HB.out.size))
      clear hb0
      clear hr0
      generalize w9.alloc (.cells #[.int .i64 H, .int .i64 W, .slice a9 n c9] 24) = w10 at *
      obtain ⟨b18, hb18⟩ : ∃ b, b = w9.heap.size := ⟨_, rfl⟩
      rw [← hb18] at HR18 ⊢
      clear hb18
      have l18 := row_range HR18.out
      go_wp2_with (refine wpList_load_mid rfl 24 _ rfl b18 0 rfl _ _ l18 Try.underlying24 rfl infoPatA ?_)
      clear l18
      refine (run_flat ta tn tc tz H W a9 n c9 (turnC H cf) ph m w10 (HT.out.keep HB.out) HTF.out HI9.out HNIL9.out (by rw [HN.out, Nat.mul_comm]) hH hW HH2.out HW2.out (turnC_lt HC.out) hph hm).mono ?_
      rintro e0 w11 ⟨⟨a11, c11, rfl, hnil11, hI11⟩, hb9⟩
      rw [HTE.out] at hI11
      have HI11 := Lib.hid hI11
      clear hI11 hnil11 HI9 HR18
      have HR5 := Lib.hid (HR5.out.keep hb9 HR5.out.lt)
      have HI3 := Lib.hid (HI3.out.keep hb9)
      have HR11 := Lib.hid (HR11.out.keep hb9 HR11.out.lt)
      have HB := Lib.hid (HB.out.trans (hb9.mono HB.out.size))
      clear hb9
      go_upto_region 18 with fail
      obtain ⟨hr0, hb0⟩ := row_new w11 H W a11 n c11
      have HR19 := Lib.hid hr0
      have HR5 := Lib.hid (HR5.out.keep hb0 HR5.out.lt)
      have HI3 := Lib.hid (HI3.out.keep hb0)
      have HR11 := Lib.hid (HR11.out.keep hb0 HR11.out.lt)
      have HI11 := Lib.hid (HI11.out.keep hb0)
      have HB := Lib.hid (HB.out.trans (hb0.mono HB.out.size))
      clear hb0
      clear hr0
      generalize w11.alloc (.cells #[.int .i64 H, .int .i64 W, .slice a11 n c11] 24) = w12 at *
      obtain ⟨b19, hb19⟩ : ∃ b, b = w11.heap.size := ⟨_, rfl⟩
      rw [← hb19] at HR19 ⊢
      clear hb19
      have l11 := row_range HR11.out
      go_wp2_with (refine wpList_load_mid rfl 24 _ rfl b11 0 rfl _ _ l11 Try.underlying24 rfl infoPatA ?_)
      clear l11
      refine (turn_flat W H a3 n c3 (run (tN tz) W H ph cf m) w12 HI3.out HN.out hW hH HRC.out).mono ?_
      rintro e0 w13 ⟨⟨a13, c13, rfl, hnil13, hI13⟩, hb9⟩
      have HI13 := Lib.hid hI13
      clear hI13 hnil13
      have HR5 := Lib.hid (HR5.out.keep hb9 HR5.out.lt)
      have HI3 := Lib.hid (HI3.out.keep hb9)
      have HR11 := Lib.hid (HR11.out.keep hb9 HR11.out.lt)
      have HI11 := Lib.hid (HI11.out.keep hb9)
      have HR19 := Lib.hid (HR19.out.keep hb9 HR19.out.lt)
      have HB := Lib.hid (HB.out.trans (hb9.mono HB.out.size))
      clear hb9
      go_upto_region 19 with fail
      obtain ⟨hr0, hb0⟩ := row_new w13 H W a13 n c13
      have HR21 := Lib.hid hr0
      have HR5 := Lib.hid (HR5.out.keep hb0 HR5.out.lt)
      have HI3 := Lib.hid (HI3.out.keep hb0)
      have HR11 := Lib.hid (HR11.out.keep hb0 HR11.out.lt)
      have HI11 := Lib.hid (HI11.out.keep hb0)
      have HR19 := Lib.hid (HR19.out.keep hb0 HR19.out.lt)
      have HI13 := Lib.hid (HI13.out.keep hb0)
      have HB := Lib.hid (HB.out.trans (hb0.mono HB.out.size))
      clear hb0
      clear hr0
      generalize w13.alloc (.cells #[.int .i64 H, .int .i64 W, .slice a13 n c13] 24) = w14 at *
      obtain ⟨b21, hb21⟩ : ∃ b, b = w13.heap.size := ⟨_, rfl⟩
      rw [← hb21] at HR21 ⊢
      clear hb21
      have l19 := row_range HR19.out
      have l21 := row_range HR21.out
      go_wp2_with (first | (refine wpList_load_mid rfl 24 _ rfl b19 0 rfl _ _ l19 Try.underlying24 rfl infoPatA ?_) | (refine wpList_load_mid rfl 24 _ rfl b21 0 rfl _ _ l21 Try.underlying24 rfl infoPatA ?_))
      clear l19 l21
      refine (alike_flat H W a11 n c11 _ a13 c13 _ w14 HI11.out HI13.out rfl).mono ?_
      rintro e0 w15 ⟨rfl, hb9⟩
      clear HI11 HI13 HR19 HR21 HTE
      have HR5 := Lib.hid (HR5.out.keep hb9 HR5.out.lt)
      have HI3 := Lib.hid (HI3.out.keep hb9)
      have HR11 := Lib.hid (HR11.out.keep hb9 HR11.out.lt)
      have HB := Lib.hid (HB.out.trans (hb9.mono HB.out.size))
      clear hb9
      go_wp2_with fail
      refine (back_ok ta tn tc tz w15 (HT.out.keep HB.out) HTF.out).mono ?_
      rintro e0 w20 ⟨⟨hno, rfl⟩ | ⟨hon, b8, hb8, rfl, hR8⟩, hb9⟩
      · rw [errV_some (by decide)]
        have HB := Lib.hid (HB.out.trans (hb9.mono HB.out.size))
        go_wp2_with fail
        go_ret
        exact ⟨rfl, HB.out⟩
      · have HON := Lib.hid hon
        have HI8 := Lib.hid (row_is hR8 inv_len (by decide))
        clear hR8 hb8 hon
        have HR5 := Lib.hid (HR5.out.keep hb9 HR5.out.lt)
        have HR11 := Lib.hid (HR11.out.keep hb9 HR11.out.lt)
        have HI3 := Lib.hid (HI3.out.keep hb9)
        have HB := Lib.hid (HB.out.trans (hb9.mono HB.out.size))
        clear hb9
        obtain ⟨p8, hp8⟩ : ∃ p8, p8 = (ph + m + 1) % 2 := ⟨_, rfl⟩
        have hp8t : ((ph : Int) + (m : Int) + 1).tmod 2 = (p8 : Int) := by
          rw [hp8, show ((ph : Int) + (m : Int) + 1) = ((ph + m + 1 : Nat) : Int) from by push_cast; rfl]; exact Int.ofNat_tmod _ _
        have hp81 : p8 ≤ 1 := by omega
        have HUN : Hid (flat W H (run (tN (inv tz 16)) W H p8 (run (tN tz) W H ph cf m) m) = flat W H cf) := by
          show _ = flat W H cf
          rw [hp8]; exact undone HTF.out HON.out HW2.out HH2.out HC.out
        clear hp8
        have l11 := row_range HR11.out
        go_wp2_with (refine wpList_load_mid rfl 24 _ rfl b11 0 rfl _ _ l11 Try.underlying24 rfl infoPatA ?_)
        clear l11 hp8t
        refine (run_flat _ 16 16 (inv tz 16) W H a3 n c3 (run (tN tz) W H ph cf m) p8 m w20 HI8.out inv_fault HI3.out HNIL3.out HN.out hW hH HW2.out HH2.out HRC.out hp81 hm).mono ?_
        rintro e0 w21 ⟨⟨a21, c21, rfl, hnil21, hI21⟩, hb9⟩
        rw [HUN.out] at hI21
        have HI21 := Lib.hid hI21
        clear hI21 hnil21 HR11 HI3 HI8 HUN
        have HR5 := Lib.hid (HR5.out.keep hb9 HR5.out.lt)
        have HB := Lib.hid (HB.out.trans (hb9.mono HB.out.size))
        clear hb9
        go_upto_region 26 with fail
        obtain ⟨hr0, hb0⟩ := row_new w21 W H a21 n c21
        have HR25 := Lib.hid hr0
        have HR5 := Lib.hid (HR5.out.keep hb0 HR5.out.lt)
        have HI21 := Lib.hid (HI21.out.keep hb0)
        have HB := Lib.hid (HB.out.trans (hb0.mono HB.out.size))
        clear hb0
        clear hr0
        generalize w21.alloc (.cells #[.int .i64 W, .int .i64 H, .slice a21 n c21] 24) = w22 at *
        obtain ⟨b25, hb25⟩ : ∃ b, b = w21.heap.size := ⟨_, rfl⟩
        rw [← hb25] at HR25 ⊢
        clear hb25
        have l5 := row_range HR5.out
        have l25 := row_range HR25.out
        go_wp2_with (first | (refine wpList_load_mid rfl 24 _ rfl b5 0 rfl _ _ l5 Try.underlying24 rfl infoPatA ?_) | (refine wpList_load_mid rfl 24 _ rfl b25 0 rfl _ _ l25 Try.underlying24 rfl infoPatA ?_))
        clear l5 l25
        refine (alike_flat W H a21 n c21 _ a c _ w22 HI21.out (HP.out.keep HB.out) rfl).mono ?_
        rintro e0 w23 ⟨rfl, hb9⟩
        have HB := Lib.hid (HB.out.trans (hb9.mono HB.out.size))
        clear hb9
        go_wp2_with fail
        go_ret
        exact ⟨rfl, HB.out⟩
theorem blocksBack_any (ta : Option Addr) (tn tc : Nat) (tz : List Int) (W H : Int) (a : Option Addr) (n c : Nat) (zs : List Int) (ph m : Int) (w : World) (hT : Ints.Is w ta tn tz) (hP : Ints.Is w a n zs) (hnil : a = none → n = 0) :
    Calls Try.prog 3 #[.slice ta tn tc, .agg #[.int .i64 W, .int .i64 H, .slice a n c], .int .i64 ph, .int .i64 m] w fun e w' => e = .returned (.bool true) ∧ Below w.heap.size w w' := by
  by_cases hf : rfault tz W H zs ph m = 0
  · obtain ⟨hf1, hf2, hW, hH, hph, hm0, hm1⟩ := rfault_zero hf
    obtain ⟨⟨hw0, hw1, hh0, hh1⟩, hwh, h01⟩ := pfault_zero hf2
    obtain ⟨W, rfl⟩ := Int.eq_ofNat_of_zero_le hw0
    obtain ⟨H, rfl⟩ := Int.eq_ofNat_of_zero_le hh0
    obtain ⟨m, rfl⟩ := Int.eq_ofNat_of_zero_le hm0
    obtain ⟨ph, rfl⟩ := Int.eq_ofNat_of_zero_le (show 0 ≤ ph by omega)
    have hn : n = W * H := by
      have h1 : ((W * H : Nat) : Int) = (W : Int) * (H : Int) := by push_cast; rfl
      have h2 := hP.len
      omega
    have hzf : flat W H (cel zs W) = zs := flat_cel (by rw [hP.len, hn]) h01
    exact blocksBack_ok ta tn tc tz W H a n c (cel zs W) ph m w hT hf1 (by rw [hzf]; exact hP) hnil hn (by omega) (by omega) (by omega) (by omega) (cel_lt h01) (by omega) (by omega)
  · exact blocksBack_fault ta tn tc tz W H a n c zs ph m w hT hP hnil hf
end Bl
end Go.Proofs.Ytmnefdcgknmnjaa
