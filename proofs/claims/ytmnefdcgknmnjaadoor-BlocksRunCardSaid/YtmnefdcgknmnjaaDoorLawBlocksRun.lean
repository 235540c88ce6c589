/- THE LAW BlocksRun: its walk, out of its callees' contracts. -/
import Derived.Test.YtmnefdcgknmnjaaDoorBlU
namespace Go.Proofs.YtmnefdcgknmnjaaDoor
set_option linter.unusedSimpArgs false
set_option linter.unusedVariables false
open Go.RowKit Go.Lib
namespace Bl
open Tld Mem
set_option maxHeartbeats 16000000 in
set_option maxRecDepth 1000000 in
theorem blocksRun_A (ta : Option Addr) (tn tc : Nat) (tz : List Int) (W H : Int) (a : Option Addr) (n c : Nat) (zs : List Int) (ph m : Int) (t : Int) (w : World) (hT : Ints.Is w ta tn tz) (hP : Ints.Is w a n zs) (hL : Laid w) (hf : tfault tz = t) (ht : t ≠ 0) :
    Calls Tryd.prog 3 #[.slice ta tn tc, .agg #[.int .i64 W, .int .i64 H, .slice a n c], .int .i64 ph, .int .i64 m] w fun e w' => e = .returned (.bool true) ∧ Below w.heap.size w w' := by
  have HT := Lib.hid hT
  have HP := Lib.hid hP
  have HL := Lib.hid hL
  clear hT hP hL
  have hbd := tfault_bd tz
  rw [hf] at hbd
  have hrf : rfault tz W H zs ph m = t := by unfold rfault; rw [if_pos (by rw [hf]; exact ht), hf]
  have HRT := Lib.hid (fun (w2 : World) (h2 : Below w.heap.size w w2) => table_any ta tn tc tz w2 (HT.out.keep h2))
  have HCH := Lib.hid (fun (w2 : World) (h2 : Below w.heap.size w w2) => check_any ta tn tc tz w2 HT.out.len (by have := HT.out.le; unfold maxLen at this; omega) (HT.out.keep h2).cells)
  rw [hf] at HRT
  rw [hf, errV_some ht] at HCH
  have HSM := Lib.hid (fun (w2 : World) (h2 : Below w.heap.size w w2) => same_iface t w2 (below_laid HL.out h2) hbd ht)
  have HRN := Lib.hid (fun (w2 : World) (h2 : Below w.heap.size w w2) => run_faultF ta tn tc tz W H a n c zs ph m t w2 (HT.out.keep h2) (HP.out.keep h2) hrf ht)
  have HF := Lib.hid hf
  have HTN := Lib.hid ht
  have ht0 : (t == 0) = false := by rw [beq_eq_false_iff_ne]; exact ht
  clear hrf hbd hf ht
  go_enter Tryd.func3, Tryd.ntmps3
  go_wp2_with fail
  obtain ⟨hr0, hb0⟩ := row_new w W H a n c
  have HR5 := Lib.hid hr0
  have HB := Lib.hid hb0
  clear hb0
  clear hr0
  generalize w.alloc (.cells #[.int .i64 W, .int .i64 H, .slice a n c] 24) = w1 at *
  obtain ⟨b5, hb5⟩ : ∃ b, b = w.heap.size := ⟨_, rfl⟩
  rw [← hb5] at HR5 ⊢
  clear hb5
  refine (HRT.out _ HB.out).mono ?_
  rintro e0 w2 ⟨rfl, rfl⟩
  go_wp2_with fail
  refine (HCH.out _ HB.out).mono ?_
  rintro e0 w2 ⟨rfl, rfl⟩
  go_wp2_with fail
  refine (HSM.out _ HB.out).mono ?_
  rintro e0 w2 ⟨rfl, hb0⟩
  have HR5 := Lib.hid (HR5.out.keep hb0 HR5.out.lt)
  have HB := Lib.hid (HB.out.trans (hb0.mono HB.out.size))
  clear hb0
  clear HRT HCH
  go_upto_region 11 with fail
  have l5 := row_range HR5.out
  go_wp2_with (refine wpList_load_mid rfl 24 _ rfl b5 0 rfl _ _ l5 Tryd.underlying24 rfl infoPat ?_)
  clear l5
  refine (HRN.out _ HB.out).mono ?_
  rintro e0 w3 ⟨rfl, hb0⟩
  have HR5 := Lib.hid (HR5.out.keep hb0 HR5.out.lt)
  have HB := Lib.hid (HB.out.trans (hb0.mono HB.out.size))
  clear hb0
  go_upto_region 12 with fail
  obtain ⟨hr0, hb0⟩ := row_new w3 0 0 none 0 0
  have HR13 := Lib.hid hr0
  have HR5 := Lib.hid (HR5.out.keep hb0 HR5.out.lt)
  have HB := Lib.hid (HB.out.trans (hb0.mono HB.out.size))
  clear hb0
  clear hr0
  generalize w3.alloc (.cells #[.int .i64 0, .int .i64 0, .slice none 0 0] 24) = w4 at *
  obtain ⟨b13, hb13⟩ : ∃ b, b = w3.heap.size := ⟨_, rfl⟩
  rw [← hb13] at HR13 ⊢
  clear hb13
  go_wp2_with fail
  refine (HSM.out _ HB.out).mono ?_
  rintro e0 w5 ⟨rfl, hb0⟩
  have HR5 := Lib.hid (HR5.out.keep hb0 HR5.out.lt)
  have HR13 := Lib.hid (HR13.out.keep hb0 HR13.out.lt)
  have HB := Lib.hid (HB.out.trans (hb0.mono HB.out.size))
  clear hb0
  go_upto_region 16 with fail
  obtain ⟨hr0, hb0⟩ := row_new w5 0 0 none 0 0
  have HR15 := Lib.hid hr0
  have HR5 := Lib.hid (HR5.out.keep hb0 HR5.out.lt)
  have HR13 := Lib.hid (HR13.out.keep hb0 HR13.out.lt)
  have HB := Lib.hid (HB.out.trans (hb0.mono HB.out.size))
  clear hb0
  clear hr0
  generalize w5.alloc (.cells #[.int .i64 0, .int .i64 0, .slice none 0 0] 24) = w6 at *
  obtain ⟨b15, hb15⟩ : ∃ b, b = w5.heap.size := ⟨_, rfl⟩
  rw [← hb15] at HR15 ⊢
  clear hb15
  have l13 := row_range HR13.out
  have l15 := row_range HR15.out
  go_wp2_with (first | (refine wpList_load_mid rfl 24 _ rfl b13 0 rfl _ _ l13 Tryd.underlying24 rfl infoPat ?_) | (refine wpList_load_mid rfl 24 _ rfl b15 0 rfl _ _ l15 Tryd.underlying24 rfl infoPat ?_))
  clear l13 l15
  refine (alike_none _).mono ?_
  rintro e0 w7 ⟨rfl, hb0⟩
  have HR5 := Lib.hid (HR5.out.keep hb0 HR5.out.lt)
  have HR13 := Lib.hid (HR13.out.keep hb0 HR13.out.lt)
  have HR15 := Lib.hid (HR15.out.keep hb0 HR15.out.lt)
  have HB := Lib.hid (HB.out.trans (hb0.mono HB.out.size))
  clear hb0
  go_upto_if 101 with fail
  go_step
  go_step
  go_step
  rename_i hKK
  refine hKK _ _ ?_
  clear hKK
  refine tail_fault ta tn tc tz t w7 (HT.out.keep HB.out) HF.out HTN.out (below_laid HL.out HB.out) _ _ _ _ _ _ _ _ _ _ _ _ _ _ _ _ _ _ _ _ _ _ _ _ _ _ _ _ _ _ _ _ _ _ _ _ _ _ _ _ _ _ _ _ _ _ _ _ _ _ _ _ _ _ _ _ _ _ _ _ _ _ _ _ _ _ _ _ _ _ _ _ _ _ _ _ _ _ _ _ _ _ _ _ _ _ _ _ _ _ _ _ _ _ _ _ _ _ _ _ _ _ _ _ _ _ _ _ _ _ _ _ _ _ _ _ _ _ _ _ _ _ _ _ _ _ _ _ _ _ _ _ _ _ _ _ _ _ _ _ _ _ _ _ _ _ _ _ _ _ _ _ _ _ _ _ _ _ _ _ _ _ _ _ _ _ _ _ _ _ _ _ _ _ _ _ _ _ _ _ _ _ _ _ _ _ _ _ _ _ _ _ _ ?_
  intro u10 u11 u12 u14 u16 u17 u18 u19 u20 u21 u22 u23 u24 u25 u102 u103 u104 u105 u106 u107 u108 u109 u110 u111 u112 u113 u114 u115 u116 u117 u118 u119 u120 u121 u122 u123 u124 u125 u126 u127 u128 u129 u130 u131 u132 u133 u134 u135 u136 u137 u138 u139 u140 u141 u142 u143 u144 u145 u146 u147 u148 u149 u150 u151 u152 u153 u154 u155 u156 u157 u158 u159 u160 u161 u162 u163 u164 u165 u166 u167 u168 u169 u170 u171 u172 u173 u174 u175 u176 u177 u178 u179 u180 u181 u182 u183 u184 u185 u186 u187 u188 u189 u190 u191 u192 u193 wz hz
  have HB := Lib.hid (HB.out.trans (hz.mono HB.out.size))
  clear hz
  go_wp2_with fail
  go_ret
  exact ⟨rfl, HB.out⟩
set_option maxHeartbeats 16000000 in
set_option maxRecDepth 1000000 in
theorem blocksRun_B (ta : Option Addr) (tn tc : Nat) (tz : List Int) (W H : Int) (a : Option Addr) (n c : Nat) (zs : List Int) (ph m : Int) (t : Int) (w : World) (hT : Ints.Is w ta tn tz) (hP : Ints.Is w a n zs) (hL : Laid w) (hf : tfault tz = 0) (hp : pfault W H zs = t) (ht : t ≠ 0) :
    Calls Tryd.prog 3 #[.slice ta tn tc, .agg #[.int .i64 W, .int .i64 H, .slice a n c], .int .i64 ph, .int .i64 m] w fun e w' => e = .returned (.bool true) ∧ Below w.heap.size w w' := by
  have HT := Lib.hid hT
  have HP := Lib.hid hP
  have HL := Lib.hid hL
  clear hT hP hL
  have HRT := Lib.hid (fun (w2 : World) (h2 : Below w.heap.size w w2) => table_any ta tn tc tz w2 (HT.out.keep h2))
  have HCH := Lib.hid (fun (w2 : World) (h2 : Below w.heap.size w w2) => check_any ta tn tc tz w2 HT.out.len (by have := HT.out.le; unfold maxLen at this; omega) (HT.out.keep h2).cells)
  rw [hf] at HRT
  rw [hf, errV_zero rfl] at HCH
  have HSN := Lib.hid (fun (w2 : World) (h2 : Below w.heap.size w w2) => same_nil w2 (below_laid HL.out h2))
  have HSH := Lib.hid (fun (w2 : World) (h2 : Below w.heap.size w w2) => shape_any W H a n c zs w2 (HP.out.keep h2))
  have HF := Lib.hid hf
  have hbd := pfault_bd W H zs
  rw [hp] at hbd HSH
  have hrf : rfault tz W H zs ph m = t := by unfold rfault; rw [if_neg (by simp [hf]), if_pos (by rw [hp]; exact ht), hp]
  have HSM := Lib.hid (fun (w2 : World) (h2 : Below w.heap.size w w2) => same_iface t w2 (below_laid HL.out h2) hbd ht)
  have HRN := Lib.hid (fun (w2 : World) (h2 : Below w.heap.size w w2) => run_faultF ta tn tc tz W H a n c zs ph m t w2 (HT.out.keep h2) (HP.out.keep h2) hrf ht)
  have ht0 : (t == 0) = false := by rw [beq_eq_false_iff_ne]; exact ht
  clear hrf hbd hf ht hp
  go_enter Tryd.func3, Tryd.ntmps3
  go_wp2_with fail
  obtain ⟨hr0, hb0⟩ := row_new w W H a n c
  have HR5 := Lib.hid hr0
  have HB := Lib.hid hb0
  clear hb0
  clear hr0
  generalize w.alloc (.cells #[.int .i64 W, .int .i64 H, .slice a n c] 24) = w1 at *
  obtain ⟨b5, hb5⟩ : ∃ b, b = w.heap.size := ⟨_, rfl⟩
  rw [← hb5] at HR5 ⊢
  clear hb5
  refine (HRT.out _ HB.out).mono ?_
  rintro e0 w2 ⟨rfl, rfl⟩
  go_wp2_with fail
  refine (HCH.out _ HB.out).mono ?_
  rintro e0 w2 ⟨rfl, rfl⟩
  go_wp2_with fail
  refine (HSN.out _ HB.out).mono ?_
  rintro e0 w2 ⟨rfl, hb0⟩
  have HR5 := Lib.hid (HR5.out.keep hb0 HR5.out.lt)
  have HB := Lib.hid (HB.out.trans (hb0.mono HB.out.size))
  clear hb0
  go_upto_region 6 with fail
  have l5 := row_range HR5.out
  go_wp2_with (refine wpList_load_mid rfl 24 _ rfl b5 0 rfl _ _ l5 Tryd.underlying24 rfl infoPat ?_)
  clear l5 HRT HCH
  refine (HSH.out _ HB.out).mono ?_
  rintro e0 w2' ⟨rfl, hb0⟩
  have HR5 := Lib.hid (HR5.out.keep hb0 HR5.out.lt)
  have HB := Lib.hid (HB.out.trans (hb0.mono HB.out.size))
  clear hb0
  clear HSH
  go_upto_region 11 with fail
  have l5 := row_range HR5.out
  go_wp2_with (refine wpList_load_mid rfl 24 _ rfl b5 0 rfl _ _ l5 Tryd.underlying24 rfl infoPat ?_)
  clear l5
  refine (HRN.out _ HB.out).mono ?_
  rintro e0 w3 ⟨rfl, hb0⟩
  have HR5 := Lib.hid (HR5.out.keep hb0 HR5.out.lt)
  have HB := Lib.hid (HB.out.trans (hb0.mono HB.out.size))
  clear hb0
  go_upto_region 12 with fail
  obtain ⟨hr0, hb0⟩ := row_new w3 0 0 none 0 0
  have HR13 := Lib.hid hr0
  have HR5 := Lib.hid (HR5.out.keep hb0 HR5.out.lt)
  have HB := Lib.hid (HB.out.trans (hb0.mono HB.out.size))
  clear hb0
  clear hr0
  generalize w3.alloc (.cells #[.int .i64 0, .int .i64 0, .slice none 0 0] 24) = w4 at *
  obtain ⟨b13, hb13⟩ : ∃ b, b = w3.heap.size := ⟨_, rfl⟩
  rw [← hb13] at HR13 ⊢
  clear hb13
  go_wp2_with fail
  refine (HSM.out _ HB.out).mono ?_
  rintro e0 w5 ⟨rfl, hb0⟩
  have HR5 := Lib.hid (HR5.out.keep hb0 HR5.out.lt)
  have HR13 := Lib.hid (HR13.out.keep hb0 HR13.out.lt)
  have HB := Lib.hid (HB.out.trans (hb0.mono HB.out.size))
  clear hb0
  go_upto_region 16 with fail
  obtain ⟨hr0, hb0⟩ := row_new w5 0 0 none 0 0
  have HR15 := Lib.hid hr0
  have HR5 := Lib.hid (HR5.out.keep hb0 HR5.out.lt)
  have HR13 := Lib.hid (HR13.out.keep hb0 HR13.out.lt)
  have HB := Lib.hid (HB.out.trans (hb0.mono HB.out.size))
  clear hb0
  clear hr0
  generalize w5.alloc (.cells #[.int .i64 0, .int .i64 0, .slice none 0 0] 24) = w6 at *
  obtain ⟨b15, hb15⟩ : ∃ b, b = w5.heap.size := ⟨_, rfl⟩
  rw [← hb15] at HR15 ⊢
  clear hb15
  have l13 := row_range HR13.out
  have l15 := row_range HR15.out
  go_wp2_with (first | (refine wpList_load_mid rfl 24 _ rfl b13 0 rfl _ _ l13 Tryd.underlying24 rfl infoPat ?_) | (refine wpList_load_mid rfl 24 _ rfl b15 0 rfl _ _ l15 Tryd.underlying24 rfl infoPat ?_))
  clear l13 l15
  refine (alike_none _).mono ?_
  rintro e0 w7 ⟨rfl, hb0⟩
  have HR5 := Lib.hid (HR5.out.keep hb0 HR5.out.lt)
  have HR13 := Lib.hid (HR13.out.keep hb0 HR13.out.lt)
  have HR15 := Lib.hid (HR15.out.keep hb0 HR15.out.lt)
  have HB := Lib.hid (HB.out.trans (hb0.mono HB.out.size))
  clear hb0
  go_upto_if 101 with fail
  go_step
  go_step
  go_step
  rename_i hKK
  refine hKK _ _ ?_
  clear hKK
  refine tail_ok ta tn tc tz w7 (HT.out.keep HB.out) HF.out (below_laid HL.out HB.out) _ _ _ _ _ _ _ _ _ _ _ _ _ _ _ _ _ _ _ _ _ _ _ _ _ _ _ _ _ _ _ _ _ _ _ _ _ _ _ _ _ _ _ _ _ _ _ _ _ _ _ _ _ _ _ _ _ _ _ _ _ _ _ _ _ _ _ _ _ _ _ _ _ _ _ _ _ _ _ _ _ _ _ _ _ _ _ _ _ _ _ _ _ _ _ _ _ _ _ _ _ _ _ _ _ _ _ _ _ _ _ _ _ _ _ _ _ _ _ _ _ _ _ _ _ _ _ _ _ _ _ _ _ _ _ _ _ _ _ _ _ _ _ _ _ _ _ _ _ _ _ _ _ _ _ _ _ _ _ _ _ _ _ _ _ _ _ _ _ _ _ _ _ _ _ _ _ _ _ _ _ _ _ _ _ _ _ _ _ _ _ _ _ ?_
  intro u10 u11 u12 u14 u16 u17 u18 u19 u20 u21 u22 u23 u24 u25 u102 u103 u104 u105 u106 u107 u108 u109 u110 u111 u112 u113 u114 u115 u116 u117 u118 u119 u120 u121 u122 u123 u124 u125 u126 u127 u128 u129 u130 u131 u132 u133 u134 u135 u136 u137 u138 u139 u140 u141 u142 u143 u144 u145 u146 u147 u148 u149 u150 u151 u152 u153 u154 u155 u156 u157 u158 u159 u160 u161 u162 u163 u164 u165 u166 u167 u168 u169 u170 u171 u172 u173 u174 u175 u176 u177 u178 u179 u180 u181 u182 u183 u184 u185 u186 u187 u188 u189 u190 u191 u192 u193 wz hz
  have HB := Lib.hid (HB.out.trans (hz.mono HB.out.size))
  clear hz
  go_wp2_with fail
  go_ret
  exact ⟨rfl, HB.out⟩
set_option maxHeartbeats 16000000 in
set_option maxRecDepth 1000000 in
theorem blocksRun_C (ta : Option Addr) (tn tc : Nat) (tz : List Int) (W H : Int) (a : Option Addr) (n c : Nat) (zs : List Int) (ph m : Int)  (w : World) (hT : Ints.Is w ta tn tz) (hP : Ints.Is w a n zs) (hL : Laid w) (hf : tfault tz = 0) (hp : pfault W H zs = 0) (hd : W % 2 = 1 ∨ (W % 2 = 0 ∧ H % 2 = 1)) :
    Calls Tryd.prog 3 #[.slice ta tn tc, .agg #[.int .i64 W, .int .i64 H, .slice a n c], .int .i64 ph, .int .i64 m] w fun e w' => e = .returned (.bool true) ∧ Below w.heap.size w w' := by
  have HT := Lib.hid hT
  have HP := Lib.hid hP
  have HL := Lib.hid hL
  clear hT hP hL
  have HRT := Lib.hid (fun (w2 : World) (h2 : Below w.heap.size w w2) => table_any ta tn tc tz w2 (HT.out.keep h2))
  have HCH := Lib.hid (fun (w2 : World) (h2 : Below w.heap.size w w2) => check_any ta tn tc tz w2 HT.out.len (by have := HT.out.le; unfold maxLen at this; omega) (HT.out.keep h2).cells)
  rw [hf] at HRT
  rw [hf, errV_zero rfl] at HCH
  have HSN := Lib.hid (fun (w2 : World) (h2 : Below w.heap.size w w2) => same_nil w2 (below_laid HL.out h2))
  have HSH := Lib.hid (fun (w2 : World) (h2 : Below w.heap.size w w2) => shape_any W H a n c zs w2 (HP.out.keep h2))
  have HF := Lib.hid hf
  rw [hp] at HSH
  obtain ⟨⟨hw0, hw1, hh0, hh1⟩, _, _⟩ := pfault_zero hp
  have hrf : rfault tz W H zs ph m = 3 := by unfold rfault; rw [if_neg (by simp [hf]), if_neg (by simp [hp]), if_pos (by omega)]
  have HSM := Lib.hid (fun (w2 : World) (h2 : Below w.heap.size w w2) => same_iface 3 w2 (below_laid HL.out h2) (by omega) (by decide))
  have HRN := Lib.hid (fun (w2 : World) (h2 : Below w.heap.size w w2) => run_faultF ta tn tc tz W H a n c zs ph m 3 w2 (HT.out.keep h2) (HP.out.keep h2) hrf (by decide))
  have htw : W.tmod 2 = W % 2 := Int.tmod_eq_emod_of_nonneg hw0
  have hth : H.tmod 2 = H % 2 := Int.tmod_eq_emod_of_nonneg hh0
  clear hrf hf hp
  rcases hd with hd | ⟨hd, hd'⟩
  all_goals
    rw [hd] at htw
    first | (rw [hd'] at hth; clear hd hd') | clear hd hth
    go_enter Tryd.func3, Tryd.ntmps3
    go_wp2_with fail
    obtain ⟨hr0, hb0⟩ := row_new w W H a n c
    have HR5 := Lib.hid hr0
    have HB := Lib.hid hb0
    clear hb0
    clear hr0
    generalize w.alloc (.cells #[.int .i64 W, .int .i64 H, .slice a n c] 24) = w1 at *
    obtain ⟨b5, hb5⟩ : ∃ b, b = w.heap.size := ⟨_, rfl⟩
    rw [← hb5] at HR5 ⊢
    clear hb5
    refine (HRT.out _ HB.out).mono ?_
    rintro e0 w2 ⟨rfl, rfl⟩
    go_wp2_with fail
    refine (HCH.out _ HB.out).mono ?_
    rintro e0 w2 ⟨rfl, rfl⟩
    go_wp2_with fail
    refine (HSN.out _ HB.out).mono ?_
    rintro e0 w2 ⟨rfl, hb0⟩
    have HR5 := Lib.hid (HR5.out.keep hb0 HR5.out.lt)
    have HB := Lib.hid (HB.out.trans (hb0.mono HB.out.size))
    clear hb0
    go_upto_region 6 with fail
    have l5 := row_range HR5.out
    go_wp2_with (refine wpList_load_mid rfl 24 _ rfl b5 0 rfl _ _ l5 Tryd.underlying24 rfl infoPat ?_)
    clear l5 HRT HCH
    refine (HSH.out _ HB.out).mono ?_
    rintro e0 w2' ⟨rfl, hb0⟩
    have HR5 := Lib.hid (HR5.out.keep hb0 HR5.out.lt)
    have HB := Lib.hid (HB.out.trans (hb0.mono HB.out.size))
    clear hb0
    clear HSH
    have f0 := HR5.out.cell 0
    have f1 := HR5.out.cell 1
    unfold boxP at f0 f1
    dsimp only [List.getElem?_cons_succ, List.getElem?_cons_zero] at f0 f1
    go_upto_region 11 with fail
    have l5 := row_range HR5.out
    go_wp2_with (refine wpList_load_mid rfl 24 _ rfl b5 0 rfl _ _ l5 Tryd.underlying24 rfl infoPat ?_)
    clear l5
    refine (HRN.out _ HB.out).mono ?_
    rintro e0 w3 ⟨rfl, hb0⟩
    have HR5 := Lib.hid (HR5.out.keep hb0 HR5.out.lt)
    have HB := Lib.hid (HB.out.trans (hb0.mono HB.out.size))
    clear hb0
    go_upto_region 12 with fail
    obtain ⟨hr0, hb0⟩ := row_new w3 0 0 none 0 0
    have HR13 := Lib.hid hr0
    have HR5 := Lib.hid (HR5.out.keep hb0 HR5.out.lt)
    have HB := Lib.hid (HB.out.trans (hb0.mono HB.out.size))
    clear hb0
    clear hr0
    generalize w3.alloc (.cells #[.int .i64 0, .int .i64 0, .slice none 0 0] 24) = w4 at *
    obtain ⟨b13, hb13⟩ : ∃ b, b = w3.heap.size := ⟨_, rfl⟩
    rw [← hb13] at HR13 ⊢
    clear hb13
    go_wp2_with fail
    refine (HSM.out _ HB.out).mono ?_
    rintro e0 w5 ⟨rfl, hb0⟩
    have HR5 := Lib.hid (HR5.out.keep hb0 HR5.out.lt)
    have HR13 := Lib.hid (HR13.out.keep hb0 HR13.out.lt)
    have HB := Lib.hid (HB.out.trans (hb0.mono HB.out.size))
    clear hb0
    go_upto_region 16 with fail
    obtain ⟨hr0, hb0⟩ := row_new w5 0 0 none 0 0
    have HR15 := Lib.hid hr0
    have HR5 := Lib.hid (HR5.out.keep hb0 HR5.out.lt)
    have HR13 := Lib.hid (HR13.out.keep hb0 HR13.out.lt)
    have HB := Lib.hid (HB.out.trans (hb0.mono HB.out.size))
    clear hb0
    clear hr0
    generalize w5.alloc (.cells #[.int .i64 0, .int .i64 0, .slice none 0 0] 24) = w6 at *
    obtain ⟨b15, hb15⟩ : ∃ b, b = w5.heap.size := ⟨_, rfl⟩
    rw [← hb15] at HR15 ⊢
    clear hb15
    have l13 := row_range HR13.out
    have l15 := row_range HR15.out
    go_wp2_with (first | (refine wpList_load_mid rfl 24 _ rfl b13 0 rfl _ _ l13 Tryd.underlying24 rfl infoPat ?_) | (refine wpList_load_mid rfl 24 _ rfl b15 0 rfl _ _ l15 Tryd.underlying24 rfl infoPat ?_))
    clear l13 l15
    refine (alike_none _).mono ?_
    rintro e0 w7 ⟨rfl, hb0⟩
    have HR5 := Lib.hid (HR5.out.keep hb0 HR5.out.lt)
    have HR13 := Lib.hid (HR13.out.keep hb0 HR13.out.lt)
    have HR15 := Lib.hid (HR15.out.keep hb0 HR15.out.lt)
    have HB := Lib.hid (HB.out.trans (hb0.mono HB.out.size))
    clear hb0
    go_upto_if 101 with fail
    go_step
    go_step
    go_step
    rename_i hKK
    refine hKK _ _ ?_
    clear hKK
    refine tail_ok ta tn tc tz w7 (HT.out.keep HB.out) HF.out (below_laid HL.out HB.out) _ _ _ _ _ _ _ _ _ _ _ _ _ _ _ _ _ _ _ _ _ _ _ _ _ _ _ _ _ _ _ _ _ _ _ _ _ _ _ _ _ _ _ _ _ _ _ _ _ _ _ _ _ _ _ _ _ _ _ _ _ _ _ _ _ _ _ _ _ _ _ _ _ _ _ _ _ _ _ _ _ _ _ _ _ _ _ _ _ _ _ _ _ _ _ _ _ _ _ _ _ _ _ _ _ _ _ _ _ _ _ _ _ _ _ _ _ _ _ _ _ _ _ _ _ _ _ _ _ _ _ _ _ _ _ _ _ _ _ _ _ _ _ _ _ _ _ _ _ _ _ _ _ _ _ _ _ _ _ _ _ _ _ _ _ _ _ _ _ _ _ _ _ _ _ _ _ _ _ _ _ _ _ _ _ _ _ _ _ _ _ _ _ ?_
    intro u10 u11 u12 u14 u16 u17 u18 u19 u20 u21 u22 u23 u24 u25 u102 u103 u104 u105 u106 u107 u108 u109 u110 u111 u112 u113 u114 u115 u116 u117 u118 u119 u120 u121 u122 u123 u124 u125 u126 u127 u128 u129 u130 u131 u132 u133 u134 u135 u136 u137 u138 u139 u140 u141 u142 u143 u144 u145 u146 u147 u148 u149 u150 u151 u152 u153 u154 u155 u156 u157 u158 u159 u160 u161 u162 u163 u164 u165 u166 u167 u168 u169 u170 u171 u172 u173 u174 u175 u176 u177 u178 u179 u180 u181 u182 u183 u184 u185 u186 u187 u188 u189 u190 u191 u192 u193 wz hz
    have HB := Lib.hid (HB.out.trans (hz.mono HB.out.size))
    clear hz
    go_wp2_with fail
    go_ret
    exact ⟨rfl, HB.out⟩
set_option maxHeartbeats 16000000 in
set_option maxRecDepth 1000000 in
theorem blocksRun_D (ta : Option Addr) (tn tc : Nat) (tz : List Int) (W H : Int) (a : Option Addr) (n c : Nat) (zs : List Int) (ph m : Int)  (w : World) (hT : Ints.Is w ta tn tz) (hP : Ints.Is w a n zs) (hL : Laid w) (hf : tfault tz = 0) (hp : pfault W H zs = 0) (hW : W % 2 = 0) (hH : H % 2 = 0) (hd : ph < 0 ∨ (0 ≤ ph ∧ 1 < ph) ∨ (0 ≤ ph ∧ ph ≤ 1 ∧ m < 0) ∨ (0 ≤ ph ∧ ph ≤ 1 ∧ 0 ≤ m ∧ 100000 < m)) :
    Calls Tryd.prog 3 #[.slice ta tn tc, .agg #[.int .i64 W, .int .i64 H, .slice a n c], .int .i64 ph, .int .i64 m] w fun e w' => e = .returned (.bool true) ∧ Below w.heap.size w w' := by
  have HT := Lib.hid hT
  have HP := Lib.hid hP
  have HL := Lib.hid hL
  clear hT hP hL
  have HRT := Lib.hid (fun (w2 : World) (h2 : Below w.heap.size w w2) => table_any ta tn tc tz w2 (HT.out.keep h2))
  have HCH := Lib.hid (fun (w2 : World) (h2 : Below w.heap.size w w2) => check_any ta tn tc tz w2 HT.out.len (by have := HT.out.le; unfold maxLen at this; omega) (HT.out.keep h2).cells)
  rw [hf] at HRT
  rw [hf, errV_zero rfl] at HCH
  have HSN := Lib.hid (fun (w2 : World) (h2 : Below w.heap.size w w2) => same_nil w2 (below_laid HL.out h2))
  have HSH := Lib.hid (fun (w2 : World) (h2 : Below w.heap.size w w2) => shape_any W H a n c zs w2 (HP.out.keep h2))
  have HF := Lib.hid hf
  rw [hp] at HSH
  obtain ⟨⟨hw0, hw1, hh0, hh1⟩, _, _⟩ := pfault_zero hp
  have hrf : rfault tz W H zs ph m = 1 := by unfold rfault; rw [if_neg (by simp [hf]), if_neg (by simp [hp]), if_neg (by omega), if_pos (by omega)]
  have HSM := Lib.hid (fun (w2 : World) (h2 : Below w.heap.size w w2) => same_iface 1 w2 (below_laid HL.out h2) (by omega) (by decide))
  have HRN := Lib.hid (fun (w2 : World) (h2 : Below w.heap.size w w2) => run_faultF ta tn tc tz W H a n c zs ph m 1 w2 (HT.out.keep h2) (HP.out.keep h2) hrf (by decide))
  have htw : W.tmod 2 = 0 := by rw [Int.tmod_eq_emod_of_nonneg hw0]; exact hW
  have hth : H.tmod 2 = 0 := by rw [Int.tmod_eq_emod_of_nonneg hh0]; exact hH
  clear hrf hf hp hW hH
  rcases hd with h1 | ⟨h1, h2⟩ | ⟨h1, h2, h3⟩ | ⟨h1, h2, h3, h4⟩
  all_goals
    go_enter Tryd.func3, Tryd.ntmps3
    go_wp2_with fail
    obtain ⟨hr0, hb0⟩ := row_new w W H a n c
    have HR5 := Lib.hid hr0
    have HB := Lib.hid hb0
    clear hb0
    clear hr0
    generalize w.alloc (.cells #[.int .i64 W, .int .i64 H, .slice a n c] 24) = w1 at *
    obtain ⟨b5, hb5⟩ : ∃ b, b = w.heap.size := ⟨_, rfl⟩
    rw [← hb5] at HR5 ⊢
    clear hb5
    refine (HRT.out _ HB.out).mono ?_
    rintro e0 w2 ⟨rfl, rfl⟩
    go_wp2_with fail
    refine (HCH.out _ HB.out).mono ?_
    rintro e0 w2 ⟨rfl, rfl⟩
    go_wp2_with fail
    refine (HSN.out _ HB.out).mono ?_
    rintro e0 w2 ⟨rfl, hb0⟩
    have HR5 := Lib.hid (HR5.out.keep hb0 HR5.out.lt)
    have HB := Lib.hid (HB.out.trans (hb0.mono HB.out.size))
    clear hb0
    go_upto_region 6 with fail
    have l5 := row_range HR5.out
    go_wp2_with (refine wpList_load_mid rfl 24 _ rfl b5 0 rfl _ _ l5 Tryd.underlying24 rfl infoPat ?_)
    clear l5 HRT HCH
    refine (HSH.out _ HB.out).mono ?_
    rintro e0 w2' ⟨rfl, hb0⟩
    have HR5 := Lib.hid (HR5.out.keep hb0 HR5.out.lt)
    have HB := Lib.hid (HB.out.trans (hb0.mono HB.out.size))
    clear hb0
    clear HSH
    have f0 := HR5.out.cell 0
    have f1 := HR5.out.cell 1
    unfold boxP at f0 f1
    dsimp only [List.getElem?_cons_succ, List.getElem?_cons_zero] at f0 f1
    go_upto_region 11 with fail
    have l5 := row_range HR5.out
    go_wp2_with (refine wpList_load_mid rfl 24 _ rfl b5 0 rfl _ _ l5 Tryd.underlying24 rfl infoPat ?_)
    clear l5
    refine (HRN.out _ HB.out).mono ?_
    rintro e0 w3 ⟨rfl, hb0⟩
    have HR5 := Lib.hid (HR5.out.keep hb0 HR5.out.lt)
    have HB := Lib.hid (HB.out.trans (hb0.mono HB.out.size))
    clear hb0
    go_upto_region 12 with fail
    obtain ⟨hr0, hb0⟩ := row_new w3 0 0 none 0 0
    have HR13 := Lib.hid hr0
    have HR5 := Lib.hid (HR5.out.keep hb0 HR5.out.lt)
    have HB := Lib.hid (HB.out.trans (hb0.mono HB.out.size))
    clear hb0
    clear hr0
    generalize w3.alloc (.cells #[.int .i64 0, .int .i64 0, .slice none 0 0] 24) = w4 at *
    obtain ⟨b13, hb13⟩ : ∃ b, b = w3.heap.size := ⟨_, rfl⟩
    rw [← hb13] at HR13 ⊢
    clear hb13
    go_wp2_with fail
    refine (HSM.out _ HB.out).mono ?_
    rintro e0 w5 ⟨rfl, hb0⟩
    have HR5 := Lib.hid (HR5.out.keep hb0 HR5.out.lt)
    have HR13 := Lib.hid (HR13.out.keep hb0 HR13.out.lt)
    have HB := Lib.hid (HB.out.trans (hb0.mono HB.out.size))
    clear hb0
    go_upto_region 16 with fail
    obtain ⟨hr0, hb0⟩ := row_new w5 0 0 none 0 0
    have HR15 := Lib.hid hr0
    have HR5 := Lib.hid (HR5.out.keep hb0 HR5.out.lt)
    have HR13 := Lib.hid (HR13.out.keep hb0 HR13.out.lt)
    have HB := Lib.hid (HB.out.trans (hb0.mono HB.out.size))
    clear hb0
    clear hr0
    generalize w5.alloc (.cells #[.int .i64 0, .int .i64 0, .slice none 0 0] 24) = w6 at *
    obtain ⟨b15, hb15⟩ : ∃ b, b = w5.heap.size := ⟨_, rfl⟩
    rw [← hb15] at HR15 ⊢
    clear hb15
    have l13 := row_range HR13.out
    have l15 := row_range HR15.out
    go_wp2_with (first | (refine wpList_load_mid rfl 24 _ rfl b13 0 rfl _ _ l13 Tryd.underlying24 rfl infoPat ?_) | (refine wpList_load_mid rfl 24 _ rfl b15 0 rfl _ _ l15 Tryd.underlying24 rfl infoPat ?_))
    clear l13 l15
    refine (alike_none _).mono ?_
    rintro e0 w7 ⟨rfl, hb0⟩
    have HR5 := Lib.hid (HR5.out.keep hb0 HR5.out.lt)
    have HR13 := Lib.hid (HR13.out.keep hb0 HR13.out.lt)
    have HR15 := Lib.hid (HR15.out.keep hb0 HR15.out.lt)
    have HB := Lib.hid (HB.out.trans (hb0.mono HB.out.size))
    clear hb0
    go_upto_if 101 with fail
    go_step
    go_step
    go_step
    rename_i hKK
    refine hKK _ _ ?_
    clear hKK
    refine tail_ok ta tn tc tz w7 (HT.out.keep HB.out) HF.out (below_laid HL.out HB.out) _ _ _ _ _ _ _ _ _ _ _ _ _ _ _ _ _ _ _ _ _ _ _ _ _ _ _ _ _ _ _ _ _ _ _ _ _ _ _ _ _ _ _ _ _ _ _ _ _ _ _ _ _ _ _ _ _ _ _ _ _ _ _ _ _ _ _ _ _ _ _ _ _ _ _ _ _ _ _ _ _ _ _ _ _ _ _ _ _ _ _ _ _ _ _ _ _ _ _ _ _ _ _ _ _ _ _ _ _ _ _ _ _ _ _ _ _ _ _ _ _ _ _ _ _ _ _ _ _ _ _ _ _ _ _ _ _ _ _ _ _ _ _ _ _ _ _ _ _ _ _ _ _ _ _ _ _ _ _ _ _ _ _ _ _ _ _ _ _ _ _ _ _ _ _ _ _ _ _ _ _ _ _ _ _ _ _ _ _ _ _ _ _ ?_
    intro u10 u11 u12 u14 u16 u17 u18 u19 u20 u21 u22 u23 u24 u25 u102 u103 u104 u105 u106 u107 u108 u109 u110 u111 u112 u113 u114 u115 u116 u117 u118 u119 u120 u121 u122 u123 u124 u125 u126 u127 u128 u129 u130 u131 u132 u133 u134 u135 u136 u137 u138 u139 u140 u141 u142 u143 u144 u145 u146 u147 u148 u149 u150 u151 u152 u153 u154 u155 u156 u157 u158 u159 u160 u161 u162 u163 u164 u165 u166 u167 u168 u169 u170 u171 u172 u173 u174 u175 u176 u177 u178 u179 u180 u181 u182 u183 u184 u185 u186 u187 u188 u189 u190 u191 u192 u193 wz hz
    have HB := Lib.hid (HB.out.trans (hz.mono HB.out.size))
    clear hz
    go_wp2_with fail
    go_ret
    exact ⟨rfl, HB.out⟩
set_option maxHeartbeats 16000000 in
set_option maxRecDepth 1000000 in
theorem blocksRun_ok (ta : Option Addr) (tc : Nat) (tz : List Int) (W H : Nat) (a : Option Addr) (n c : Nat) (cf : Nat → Nat → Nat) (ph m : Nat) (w : World) (hT : Ints.Is w ta 16 tz) (hP : Ints.Is w a n (flat W H cf)) (hL : Laid w) (hnil : a = none → n = 0) (hf : tfault tz = 0) (hn : n = W * H) (hW : W ≤ 100) (hH : H ≤ 100) (hW2 : W % 2 = 0) (hH2 : H % 2 = 0) (hc : ∀ x y, cf x y < 2) (hph : ph ≤ 1) (hm : m ≤ 100000) :
    Calls Tryd.prog 3 #[.slice ta 16 tc, .agg #[.int .i64 W, .int .i64 H, .slice a n c], .int .i64 ph, .int .i64 m] w fun e w' => e = .returned (.bool true) ∧ Below w.heap.size w w' := by
  have HT := Lib.hid hT
  have HP := Lib.hid hP
  have HL := Lib.hid hL
  clear hT hP hL
  have HRT := Lib.hid (fun (w2 : World) (h2 : Below w.heap.size w w2) => table_any ta 16 tc tz w2 (HT.out.keep h2))
  have HCH := Lib.hid (fun (w2 : World) (h2 : Below w.heap.size w w2) => check_any ta 16 tc tz w2 HT.out.len (by have := HT.out.le; unfold maxLen at this; omega) (HT.out.keep h2).cells)
  rw [hf] at HRT
  rw [hf, errV_zero rfl] at HCH
  have HSN := Lib.hid (fun (w2 : World) (h2 : Below w.heap.size w w2) => same_nil w2 (below_laid HL.out h2))
  have HSH := Lib.hid (fun (w2 : World) (h2 : Below w.heap.size w w2) => shape_any W H a n c (flat W H cf) w2 (HP.out.keep h2))
  have HF := Lib.hid hf
  have HTB := Lib.hid (tfault_zero hf).2
  have HNIL := Lib.hid hnil
  have HN := Lib.hid hn
  have HW2 := Lib.hid hW2
  have HH2 := Lib.hid hH2
  have HC := Lib.hid hc
  rw [pfault_flat hW hH hc] at HSH
  have htw : (W : Int).tmod 2 = 0 := by rw [show ((W : Int)).tmod 2 = ((W % 2 : Nat) : Int) from Int.ofNat_tmod _ _, hW2]; rfl
  have hth : (H : Int).tmod 2 = 0 := by rw [show ((H : Int)).tmod 2 = ((H % 2 : Nat) : Int) from Int.ofNat_tmod _ _, hH2]; rfl
  clear hf hnil hn hW2 hH2 hc
  go_enter Tryd.func3, Tryd.ntmps3
  go_wp2_with fail
  obtain ⟨hr0, hb0⟩ := row_new w W H a n c
  have HR5 := Lib.hid hr0
  have HB := Lib.hid hb0
  clear hb0
  clear hr0
  generalize w.alloc (.cells #[.int .i64 W, .int .i64 H, .slice a n c] 24) = w1 at *
  obtain ⟨b5, hb5⟩ : ∃ b, b = w.heap.size := ⟨_, rfl⟩
  rw [← hb5] at HR5 ⊢
  clear hb5
  refine (HRT.out _ HB.out).mono ?_
  rintro e0 w2 ⟨rfl, rfl⟩
  go_wp2_with fail
  refine (HCH.out _ HB.out).mono ?_
  rintro e0 w2 ⟨rfl, rfl⟩
  go_wp2_with fail
  refine (HSN.out _ HB.out).mono ?_
  rintro e0 w2 ⟨rfl, hb0⟩
  have HR5 := Lib.hid (HR5.out.keep hb0 HR5.out.lt)
  have HB := Lib.hid (HB.out.trans (hb0.mono HB.out.size))
  clear hb0
  go_upto_region 6 with fail
  have l5 := row_range HR5.out
  go_wp2_with (refine wpList_load_mid rfl 24 _ rfl b5 0 rfl _ _ l5 Tryd.underlying24 rfl infoPat ?_)
  clear l5 HRT HCH
  refine (HSH.out _ HB.out).mono ?_
  rintro e0 w2' ⟨rfl, hb0⟩
  have HR5 := Lib.hid (HR5.out.keep hb0 HR5.out.lt)
  have HB := Lib.hid (HB.out.trans (hb0.mono HB.out.size))
  clear hb0
  clear HSH
  have f0 := HR5.out.cell 0
  have f1 := HR5.out.cell 1
  unfold boxP at f0 f1
  dsimp only [List.getElem?_cons_succ, List.getElem?_cons_zero] at f0 f1
  go_upto_region 11 with fail
  have l5 := row_range HR5.out
  go_wp2_with (refine wpList_load_mid rfl 24 _ rfl b5 0 rfl _ _ l5 Tryd.underlying24 rfl infoPat ?_)
  clear l5 f0 f1
  refine (run_flat ta 16 tc tz W H a n c cf ph m w2' (HT.out.keep HB.out) HF.out (HP.out.keep HB.out) HNIL.out HN.out hW hH HW2.out HH2.out HC.out hph hm).mono ?_
  rintro e0 w3 ⟨⟨a3, c3, rfl, hnil3, hI3⟩, hb0⟩
  have HI3 := Lib.hid hI3
  clear hI3 hnil3
  have HR5 := Lib.hid (HR5.out.keep hb0 HR5.out.lt)
  have HB := Lib.hid (HB.out.trans (hb0.mono HB.out.size))
  clear hb0
  go_upto_region 12 with fail
  obtain ⟨hr0, hb0⟩ := row_new w3 W H a3 n c3
  have HR13 := Lib.hid hr0
  have HR5 := Lib.hid (HR5.out.keep hb0 HR5.out.lt)
  have HI3 := Lib.hid (HI3.out.keep hb0)
  have HB := Lib.hid (HB.out.trans (hb0.mono HB.out.size))
  clear hb0
  clear hr0
  generalize w3.alloc (.cells #[.int .i64 W, .int .i64 H, .slice a3 n c3] 24) = w4 at *
  obtain ⟨b13, hb13⟩ : ∃ b, b = w3.heap.size := ⟨_, rfl⟩
  rw [← hb13] at HR13 ⊢
  clear hb13
  go_wp2_with fail
  refine (HSN.out _ HB.out).mono ?_
  rintro e0 w5 ⟨rfl, hb0⟩
  have HR5 := Lib.hid (HR5.out.keep hb0 HR5.out.lt)
  have HI3 := Lib.hid (HI3.out.keep hb0)
  have HR13 := Lib.hid (HR13.out.keep hb0 HR13.out.lt)
  have HB := Lib.hid (HB.out.trans (hb0.mono HB.out.size))
  clear hb0
  go_upto_region 15 with fail
  have hlt13 := HR13.out.lt
  have HI5 := Lib.hid HI3.out
  have HB5 := Lib.hid (Below.refl w5.heap.size w5)
  have hww := HB.out.size
  obtain ⟨hr0, hb0⟩ := row_new w5 0 0 none 0 0
  have HR15 := Lib.hid hr0
  have HR5 := Lib.hid (HR5.out.keep hb0 HR5.out.lt)
  have HR13 := Lib.hid (HR13.out.keep hb0 HR13.out.lt)
  have HB5 := Lib.hid (HB5.out.trans (hb0.mono HB5.out.size))
  have HB := Lib.hid (HB.out.trans (hb0.mono HB.out.size))
  clear hb0
  clear hr0
  generalize w5.alloc (.cells #[.int .i64 0, .int .i64 0, .slice none 0 0] 24) = w6 at *
  obtain ⟨b15, hb15⟩ : ∃ b, b = w5.heap.size := ⟨_, rfl⟩
  rw [← hb15] at HR15 ⊢
  have hne : b13 ≠ b15 := by omega
  have h15w : w5.heap.size ≤ b15 := by omega
  clear hb15
  clear HI3
  have l5 := row_range HR5.out
  go_wp2_with (refine wpList_load_mid rfl 24 _ rfl b5 0 rfl _ _ l5 Tryd.underlying24 rfl infoPat ?_)
  clear l5
  have h15l := HR15.out.lt
  refine (rrun_any ta tc tz W H a n c cf ph m w6 (HT.out.keep HB.out).cells HTB.out (HP.out.keep HB.out) HN.out hW hH HW2.out HH2.out HC.out hph hm).mono ?_
  rintro e0 w7 ⟨⟨a7, c7, rfl, hI7, hA7⟩, hb0⟩
  have HI7 := Lib.hid hI7
  clear hI7
  have HR5 := Lib.hid (HR5.out.keep hb0 HR5.out.lt)
  have HR13 := Lib.hid (HR13.out.keep hb0 HR13.out.lt)
  have HB5 := Lib.hid (HB5.out.trans (hb0.mono HB5.out.size))
  have HR15 := Lib.hid (HR15.out.keep hb0 HR15.out.lt)
  have HB := Lib.hid (HB.out.trans (hb0.mono HB.out.size))
  clear hb0
  have HNE7 : Hid (0 < n → ∀ x, a7 = some x → x.block ≠ b15) := fun h0 x e => by
    rcases hA7 with h | h
    · obtain ⟨bx, ox, e', hlt, _⟩ := HP.out.cells 0 h0
      rw [← h, e] at e'
      cases e'
      dsimp only
      omega
    · have := h x e
      omega
  clear hA7
  go_upto_region 16 with (refine Ops.wpList_store_arr rfl 24 _ _ rfl b15 rfl 24 _ (boxP W H a7 n c7) rfl HR15.out rfl infoPat (boxP_one _ _ _ _ _) ?_; intro w8 hrow8 hon8)
  have HI8 := Lib.hid (is_only HI7.out hon8 HNE7.out)
  have HI3 := Lib.hid (HI5.out.keep (HB5.out.trans (hon8.below h15w)))
  have HR13 := Lib.hid (HR13.out.other hon8 hne)
  have HB := Lib.hid (HB.out.trans (hon8.below (by omega)))
  have l13 := row_range HR13.out
  have l15 := row_range hrow8
  clear HR15 hrow8 hon8 HI7 HI5 HB5 HR5
  go_wp2_with (first | (refine wpList_load_mid rfl 24 _ rfl b13 0 rfl _ _ l13 Tryd.underlying24 rfl infoPat ?_) | (refine wpList_load_mid rfl 24 _ rfl b15 0 rfl _ _ l15 Tryd.underlying24 rfl infoPat ?_))
  clear l13 l15
  refine (alike_flatE W H a3 n c3 _ a7 c7 _ w8 HI3.out HI8.out rfl).mono ?_
  rintro e0 w9 ⟨rfl, hb0⟩
  have HB := Lib.hid (HB.out.trans (hb0.mono HB.out.size))
  clear hb0
  go_upto_if 101 with fail
  go_step
  go_step
  go_step
  rename_i hKK
  refine hKK _ _ ?_
  clear hKK
  refine tail_ok ta 16 tc tz w9 (HT.out.keep HB.out) HF.out (below_laid HL.out HB.out) _ _ _ _ _ _ _ _ _ _ _ _ _ _ _ _ _ _ _ _ _ _ _ _ _ _ _ _ _ _ _ _ _ _ _ _ _ _ _ _ _ _ _ _ _ _ _ _ _ _ _ _ _ _ _ _ _ _ _ _ _ _ _ _ _ _ _ _ _ _ _ _ _ _ _ _ _ _ _ _ _ _ _ _ _ _ _ _ _ _ _ _ _ _ _ _ _ _ _ _ _ _ _ _ _ _ _ _ _ _ _ _ _ _ _ _ _ _ _ _ _ _ _ _ _ _ _ _ _ _ _ _ _ _ _ _ _ _ _ _ _ _ _ _ _ _ _ _ _ _ _ _ _ _ _ _ _ _ _ _ _ _ _ _ _ _ _ _ _ _ _ _ _ _ _ _ _ _ _ _ _ _ _ _ _ _ _ _ _ _ _ _ _ ?_
  intro u10 u11 u12 u14 u16 u17 u18 u19 u20 u21 u22 u23 u24 u25 u102 u103 u104 u105 u106 u107 u108 u109 u110 u111 u112 u113 u114 u115 u116 u117 u118 u119 u120 u121 u122 u123 u124 u125 u126 u127 u128 u129 u130 u131 u132 u133 u134 u135 u136 u137 u138 u139 u140 u141 u142 u143 u144 u145 u146 u147 u148 u149 u150 u151 u152 u153 u154 u155 u156 u157 u158 u159 u160 u161 u162 u163 u164 u165 u166 u167 u168 u169 u170 u171 u172 u173 u174 u175 u176 u177 u178 u179 u180 u181 u182 u183 u184 u185 u186 u187 u188 u189 u190 u191 u192 u193 wz hz
  have HB := Lib.hid (HB.out.trans (hz.mono HB.out.size))
  clear hz
  go_wp2_with fail
  go_ret
  exact ⟨rfl, HB.out⟩
theorem blocksRun_any (ta : Option Addr) (tn tc : Nat) (tz : List Int) (W H : Int) (a : Option Addr) (n c : Nat) (zs : List Int) (ph m : Int) (w : World) (hT : Ints.Is w ta tn tz) (hP : Ints.Is w a n zs) (hnil : a = none → n = 0) (hL : Laid w) :
    Calls Tryd.prog 3 #[.slice ta tn tc, .agg #[.int .i64 W, .int .i64 H, .slice a n c], .int .i64 ph, .int .i64 m] w fun e w' => e = .returned (.bool true) ∧ Below w.heap.size w w' := by
  by_cases hf : tfault tz = 0
  · by_cases hp : pfault W H zs = 0
    · obtain ⟨⟨hw0, hw1, hh0, hh1⟩, hwh, h01⟩ := pfault_zero hp
      by_cases hs : W % 2 = 0 ∧ H % 2 = 0
      · by_cases hd : (0 ≤ ph ∧ ph ≤ 1) ∧ 0 ≤ m ∧ m ≤ 100000
        · obtain ⟨W, rfl⟩ := Int.eq_ofNat_of_zero_le hw0
          obtain ⟨H, rfl⟩ := Int.eq_ofNat_of_zero_le hh0
          obtain ⟨m, rfl⟩ := Int.eq_ofNat_of_zero_le hd.2.1
          obtain ⟨ph, rfl⟩ := Int.eq_ofNat_of_zero_le hd.1.1
          have hn : n = W * H := by
            have h1 : ((W * H : Nat) : Int) = (W : Int) * (H : Int) := by push_cast; rfl
            have h2 := hP.len
            omega
          have hzf : flat W H (cel zs W) = zs := flat_cel (by rw [hP.len, hn]) h01
          obtain rfl : tn = 16 := by rw [← hT.len]; exact (tfault_zero hf).1
          exact blocksRun_ok ta tc tz W H a n c (cel zs W) ph m w hT (by rw [hzf]; exact hP) hL hnil hf hn (by omega) (by omega) (by omega) (by omega) (cel_lt h01) (by omega) (by omega)
        · exact blocksRun_D ta tn tc tz W H a n c zs ph m w hT hP hL hf hp hs.1 hs.2 (by omega)
      · exact blocksRun_C ta tn tc tz W H a n c zs ph m w hT hP hL hf hp (by omega)
    · exact blocksRun_B ta tn tc tz W H a n c zs ph m (pfault W H zs) w hT hP hL hf rfl hp
  · exact blocksRun_A ta tn tc tz W H a n c zs ph m (tfault tz) w hT hP hL rfl hf
end Bl
end Go.Proofs.YtmnefdcgknmnjaaDoor
