/- WALK: blocks.Run where something is wrong; its whole contract. -/
import Derived.Test.YtmnefdcgknmnjaaDoorBlR
namespace Go.Proofs.YtmnefdcgknmnjaaDoor
set_option linter.unusedSimpArgs false
set_option linter.unusedVariables false
open Go.RowKit Go.Lib
namespace Bl
open Tld Mem

theorem noPat_one : ∀ v ∈ noPat, v.oneCell' = true := by simp [noPat, Value.oneCell']
theorem bool_dec (a b : Int) : (a != b) = decide (a ≠ b) := by
  by_cases h : a = b <;> simp [h]

set_option maxHeartbeats 4000000 in
set_option maxRecDepth 1000000 in
theorem run_fault (ta : Option Addr) (tn tc : Nat) (tz : List Int) (W H : Int) (a : Option Addr) (n c : Nat) (zs : List Int) (ph m : Int) (w : World) (hT : Cells w ta tn (fun i => .int .i64 (tz.getD i 0))) (ht : tz.length = tn) (hti : tn ≤ 9223372036854775807) (hP : Cells w a n (fun i => .int .i64 (zs.getD i 0))) (hz : zs.length = n) (hni : n ≤ 9223372036854775807) (hf : rfault tz W H zs ph m ≠ 0) :
    Calls Tryd.prog 8 #[.slice ta tn tc, pat W H a n c, .int .i64 ph, .int .i64 m] w fun e w' => e = .returned (.tuple #[pat 0 0 none 0 0, errV (rfault tz W H zs ph m)]) ∧ Below w.heap.size w w' := by
  have HCK := Lib.hid (fun w2 : World => fun h2 : Below w.heap.size w w2 => check_any ta tn tc tz w2 ht hti (hT.keep h2))
  have HPC := Lib.hid (fun w2 : World => fun h2 : Below w.heap.size w w2 => pcheck_any W H a n c zs w2 hz hni (hP.keep h2))
  clear hT hP ht hz
  unfold pat at HPC ⊢
  by_cases h1 : tfault tz = 0
  · rw [h1, errV_zero rfl] at HCK
    by_cases h2 : pfault W H zs = 0
    · rw [h2, errV_zero rfl] at HPC
      obtain ⟨⟨hw0, hw1, hh0, hh1⟩, _, _⟩ := pfault_zero h2
      by_cases h3 : W % 2 = 0 ∧ H % 2 = 0
      · by_cases h4 : (ph = 0 ∨ ph = 1) ∧ 0 ≤ m ∧ m ≤ 100000
        · refine absurd ?_ hf
          unfold rfault
          rw [if_neg (by simp [h1]), if_neg (by simp [h2]), if_neg (by omega), if_neg (by simp only [Decidable.not_not]; exact h4)]
        · have HF : Hid (rfault tz W H zs ph m = 1) := by
            show rfault tz W H zs ph m = 1
            unfold rfault
            rw [if_neg (by simp [h1]), if_neg (by simp [h2]), if_neg (by omega), if_pos h4]
          clear h1 h2 hf
          have htw : W.tmod 2 = 0 := by rw [Int.tmod_eq_emod_of_nonneg hw0]; exact h3.1
          have hth : H.tmod 2 = 0 := by rw [Int.tmod_eq_emod_of_nonneg hh0]; exact h3.2
          rw [HF.out, errV_some (by decide)]
          have hd : (((ph != 0) = true ∧ (ph != 1) = true) ∨ ((ph = 0 ∨ ph = 1) ∧ m < 0)) ∨ ((ph = 0 ∨ ph = 1) ∧ 0 ≤ m ∧ 100000 < m) := by
            rw [bne_iff_ne, bne_iff_ne]; omega
          rcases hd with (⟨hp0, hp1⟩ | ⟨rfl | rfl, hm⟩) | ⟨rfl | rfl, hm, hm'⟩
          all_goals
            go_enter Tryd.func8, Tryd.ntmps8
            go_wp2_with fail
            obtain ⟨hR5, hR8, hB2⟩ := two_new w 24 24 (boxP W H a n c) noPat
            have hB2' : Below w.heap.size w ((w.alloc (.cells #[.int .i64 W, .int .i64 H, .slice a n c] 24)).alloc (.cells #[.int .i64 0, .int .i64 0, .slice none 0 0] 24)) := hB2
            have HR5 : Hid (Row ((w.alloc (.cells #[.int .i64 W, .int .i64 H, .slice a n c] 24)).alloc (.cells #[.int .i64 0, .int .i64 0, .slice none 0 0] 24)) w.heap.size 24 (boxP W H a n c)) := hR5
            have HR8 : Hid (Row ((w.alloc (.cells #[.int .i64 W, .int .i64 H, .slice a n c] 24)).alloc (.cells #[.int .i64 0, .int .i64 0, .slice none 0 0] 24)) (w.heap.size + 1) 24 noPat) := hR8
            have HB := Lib.hid hB2'
            clear hR5 hR8 hB2 hB2'
            generalize (w.alloc (.cells #[.int .i64 W, .int .i64 H, .slice a n c] 24)).alloc (.cells #[.int .i64 0, .int .i64 0, .slice none 0 0] 24) = w1 at *
            refine (HCK.out _ HB.out).mono ?_
            rintro e1 w1 ⟨rfl, rfl⟩
            have l5 := row_range HR5.out
            go_wp2_with (refine wpList_load_mid rfl 24 _ rfl w.heap.size 0 rfl _ _ l5 Tryd.underlying24 rfl infoPat ?_)
            refine (HPC.out _ HB.out).mono ?_
            rintro e2 w2 ⟨rfl, hb2⟩
            have HR5 := Lib.hid (HR5.out.keep hb2 HR5.out.lt)
            have HR8 := Lib.hid (HR8.out.keep hb2 HR8.out.lt)
            have HB := Lib.hid (HB.out.trans (hb2.mono HB.out.size))
            clear hb2 l5
            have f0 := HR5.out.cell 0
            have f1 := HR5.out.cell 1
            unfold boxP at f0 f1
            dsimp only [List.getElem?_cons_succ, List.getElem?_cons_zero] at f0 f1
            go_wp2_with (refine Ops.wpList_store_arr rfl 24 _ _ rfl (w.heap.size + 1) rfl 24 _ noPat rfl HR8.out rfl infoPat noPat_one ?_; intro w5 hrow5 hon5)
            refine bodyPost_ret (results_pat _ _ hrow5 rfl) rfl ⟨rfl, HB.out.trans (hon5.below (by omega))⟩
      · have HF : Hid (rfault tz W H zs ph m = 3) := by
          show rfault tz W H zs ph m = 3
          unfold rfault
          rw [if_neg (by simp [h1]), if_neg (by simp [h2]), if_pos (by omega)]
        clear h1 h2 hf
        have htw : W.tmod 2 = W % 2 := Int.tmod_eq_emod_of_nonneg hw0
        have hth : H.tmod 2 = H % 2 := Int.tmod_eq_emod_of_nonneg hh0
        rw [HF.out, errV_some (by decide)]
        have hd : W % 2 = 1 ∨ (W % 2 = 0 ∧ H % 2 = 1) := by omega
        rcases hd with hd | ⟨hd, hd'⟩
        all_goals
          rw [hd] at htw
          first | (rw [hd'] at hth; clear hd hd' h3) | clear hd h3 hth
          go_enter Tryd.func8, Tryd.ntmps8
          go_wp2_with fail
          obtain ⟨hR5, hR8, hB2⟩ := two_new w 24 24 (boxP W H a n c) noPat
          have hB2' : Below w.heap.size w ((w.alloc (.cells #[.int .i64 W, .int .i64 H, .slice a n c] 24)).alloc (.cells #[.int .i64 0, .int .i64 0, .slice none 0 0] 24)) := hB2
          have HR5 : Hid (Row ((w.alloc (.cells #[.int .i64 W, .int .i64 H, .slice a n c] 24)).alloc (.cells #[.int .i64 0, .int .i64 0, .slice none 0 0] 24)) w.heap.size 24 (boxP W H a n c)) := hR5
          have HR8 : Hid (Row ((w.alloc (.cells #[.int .i64 W, .int .i64 H, .slice a n c] 24)).alloc (.cells #[.int .i64 0, .int .i64 0, .slice none 0 0] 24)) (w.heap.size + 1) 24 noPat) := hR8
          have HB := Lib.hid hB2'
          clear hR5 hR8 hB2 hB2'
          generalize (w.alloc (.cells #[.int .i64 W, .int .i64 H, .slice a n c] 24)).alloc (.cells #[.int .i64 0, .int .i64 0, .slice none 0 0] 24) = w1 at *
          refine (HCK.out _ HB.out).mono ?_
          rintro e1 w1 ⟨rfl, rfl⟩
          have l5 := row_range HR5.out
          go_wp2_with (refine wpList_load_mid rfl 24 _ rfl w.heap.size 0 rfl _ _ l5 Tryd.underlying24 rfl infoPat ?_)
          refine (HPC.out _ HB.out).mono ?_
          rintro e2 w2 ⟨rfl, hb2⟩
          have HR5 := Lib.hid (HR5.out.keep hb2 HR5.out.lt)
          have HR8 := Lib.hid (HR8.out.keep hb2 HR8.out.lt)
          have HB := Lib.hid (HB.out.trans (hb2.mono HB.out.size))
          clear hb2 l5
          have f0 := HR5.out.cell 0
          have f1 := HR5.out.cell 1
          unfold boxP at f0 f1
          dsimp only [List.getElem?_cons_succ, List.getElem?_cons_zero] at f0 f1
          go_wp2_with (refine Ops.wpList_store_arr rfl 24 _ _ rfl (w.heap.size + 1) rfl 24 _ noPat rfl HR8.out rfl infoPat noPat_one ?_; intro w5 hrow5 hon5)
          refine bodyPost_ret (results_pat _ _ hrow5 rfl) rfl ⟨rfl, HB.out.trans (hon5.below (by omega))⟩
    · have HF : Hid (rfault tz W H zs ph m = pfault W H zs) := by
        show rfault tz W H zs ph m = _
        unfold rfault
        rw [if_neg (by simp [h1]), if_pos h2]
      rw [errV_some h2] at HPC
      rw [HF.out, errV_some h2]
      clear hf h1 h2
      go_enter Tryd.func8, Tryd.ntmps8
      go_wp2_with fail
      obtain ⟨hR5, hR8, hB2⟩ := two_new w 24 24 (boxP W H a n c) noPat
      have hB2' : Below w.heap.size w ((w.alloc (.cells #[.int .i64 W, .int .i64 H, .slice a n c] 24)).alloc (.cells #[.int .i64 0, .int .i64 0, .slice none 0 0] 24)) := hB2
      have HR5 : Hid (Row ((w.alloc (.cells #[.int .i64 W, .int .i64 H, .slice a n c] 24)).alloc (.cells #[.int .i64 0, .int .i64 0, .slice none 0 0] 24)) w.heap.size 24 (boxP W H a n c)) := hR5
      have HR8 : Hid (Row ((w.alloc (.cells #[.int .i64 W, .int .i64 H, .slice a n c] 24)).alloc (.cells #[.int .i64 0, .int .i64 0, .slice none 0 0] 24)) (w.heap.size + 1) 24 noPat) := hR8
      have HB := Lib.hid hB2'
      clear hR5 hR8 hB2 hB2'
      generalize (w.alloc (.cells #[.int .i64 W, .int .i64 H, .slice a n c] 24)).alloc (.cells #[.int .i64 0, .int .i64 0, .slice none 0 0] 24) = w1 at *
      refine (HCK.out _ HB.out).mono ?_
      rintro e1 w1 ⟨rfl, rfl⟩
      have l5 := row_range HR5.out
      go_wp2_with (refine wpList_load_mid rfl 24 _ rfl w.heap.size 0 rfl _ _ l5 Tryd.underlying24 rfl infoPat ?_)
      refine (HPC.out _ HB.out).mono ?_
      rintro e2 w2 ⟨rfl, hb2⟩
      have HR5 := Lib.hid (HR5.out.keep hb2 HR5.out.lt)
      have HR8 := Lib.hid (HR8.out.keep hb2 HR8.out.lt)
      have HB := Lib.hid (HB.out.trans (hb2.mono HB.out.size))
      clear hb2 l5
      go_wp2_with (refine Ops.wpList_store_arr rfl 24 _ _ rfl (w.heap.size + 1) rfl 24 _ noPat rfl HR8.out rfl infoPat noPat_one ?_; intro w5 hrow5 hon5)
      refine bodyPost_ret (results_pat _ _ hrow5 rfl) rfl ⟨rfl, HB.out.trans (hon5.below (by omega))⟩
  · have HF : Hid (rfault tz W H zs ph m = tfault tz) := by
      show rfault tz W H zs ph m = _
      unfold rfault
      rw [if_pos h1]
    rw [errV_some h1] at HCK
    rw [HF.out, errV_some h1]
    clear hf HPC
    go_enter Tryd.func8, Tryd.ntmps8
    go_wp2_with fail
    obtain ⟨hR5, hR8, hB2⟩ := two_new w 24 24 (boxP W H a n c) noPat
    have hB2' : Below w.heap.size w ((w.alloc (.cells #[.int .i64 W, .int .i64 H, .slice a n c] 24)).alloc (.cells #[.int .i64 0, .int .i64 0, .slice none 0 0] 24)) := hB2
    have HR8 : Hid (Row ((w.alloc (.cells #[.int .i64 W, .int .i64 H, .slice a n c] 24)).alloc (.cells #[.int .i64 0, .int .i64 0, .slice none 0 0] 24)) (w.heap.size + 1) 24 noPat) := hR8
    have HB := Lib.hid hB2'
    clear hR5 hR8 hB2 hB2'
    generalize (w.alloc (.cells #[.int .i64 W, .int .i64 H, .slice a n c] 24)).alloc (.cells #[.int .i64 0, .int .i64 0, .slice none 0 0] 24) = w1 at *
    refine (HCK.out _ HB.out).mono ?_
    rintro e1 w1 ⟨rfl, rfl⟩
    go_wp2_with (refine Ops.wpList_store_arr rfl 24 _ _ rfl (w.heap.size + 1) rfl 24 _ noPat rfl HR8.out rfl infoPat noPat_one ?_; intro w5 hrow5 hon5)
    refine bodyPost_ret (results_pat _ _ hrow5 rfl) rfl ⟨rfl, HB.out.trans (hon5.below (by omega))⟩

/-- blocks.Run, whole. -/
theorem run_any (ta : Option Addr) (tn tc : Nat) (tz : List Int) (W H : Int) (a : Option Addr) (n c : Nat) (zs : List Int) (ph m : Int) (w : World) (hT : Ints.Is w ta tn tz) (hP : Ints.Is w a n zs) (hnil : a = none → n = 0) :
    Calls Tryd.prog 8 #[.slice ta tn tc, pat W H a n c, .int .i64 ph, .int .i64 m] w fun e w' =>
      ((rfault tz W H zs ph m ≠ 0 ∧ e = .returned (.tuple #[pat 0 0 none 0 0, errV (rfault tz W H zs ph m)])) ∨
       (rfault tz W H zs ph m = 0 ∧ ∃ a' c' g, e = .returned (.tuple #[pat W H a' n c', .nilIface]) ∧ w.heap.size ≤ g ∧ (a' = none → n = 0) ∧ Holds w' g a' W.toNat H.toNat (run (tN tz) W.toNat H.toNat ph.toNat (cel zs W.toNat) m.toNat))) ∧ Below w.heap.size w w' := by
  have hl1 := hT.le
  have hl2 := hP.le
  unfold maxLen at hl1 hl2
  by_cases hf : rfault tz W H zs ph m = 0
  · obtain ⟨hf1, hf2, hW, hH, hph, hm0, hm1⟩ := rfault_zero hf
    obtain ⟨ht16, htb⟩ := tfault_zero hf1
    obtain ⟨⟨hw0, hw1, hh0, hh1⟩, hwh, h01⟩ := pfault_zero hf2
    obtain ⟨W, rfl⟩ := Int.eq_ofNat_of_zero_le hw0
    obtain ⟨H, rfl⟩ := Int.eq_ofNat_of_zero_le hh0
    obtain ⟨m, rfl⟩ := Int.eq_ofNat_of_zero_le hm0
    obtain ⟨ph, rfl⟩ := Int.eq_ofNat_of_zero_le (show 0 ≤ ph by omega)
    obtain rfl : tn = 16 := by rw [← hT.len]; exact ht16
    refine (run_ok ta tc tz W H a n c zs ph m w hT.cells hP.cells hP.len hnil hf).mono ?_
    rintro e w' ⟨⟨a', c', g, h1, h2, h3, h4⟩, h5⟩
    exact ⟨.inr ⟨hf, a', c', g, h1, h2, h3, h4⟩, h5⟩
  · refine (run_fault ta tn tc tz W H a n c zs ph m w hT.cells hT.len (by omega) hP.cells hP.len (by omega) hf).mono ?_
    rintro e w' ⟨h1, h2⟩
    exact ⟨.inl ⟨hf, h1⟩, h2⟩
end Bl
end Go.Proofs.YtmnefdcgknmnjaaDoor
