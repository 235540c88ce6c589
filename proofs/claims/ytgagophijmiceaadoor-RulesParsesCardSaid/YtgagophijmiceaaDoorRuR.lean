/- WALK: the reader's rule, whole. -/
import Derived.Test.YtgagophijmiceaaDoorRuRl
namespace Go.Proofs.YtgagophijmiceaaDoor
set_option linter.unusedSimpArgs false
set_option linter.unusedVariables false
open Go.RowKit
namespace Pr
open Tld Mem Bl Pn Pw Rd


set_option maxHeartbeats 16000000 in
set_option maxRecDepth 1000000 in
theorem rule_any (s : ByteArray) (b : Nat) (w : World) (hs : s.size ≤ 9223372036854775807) (hR : Row w b 62 (rdr s 0)) : Calls Tryd.prog 30 #[.pointer (some ⟨b, 0, none⟩)] w fun e w' => RuP s.data.toList w.heap.size e w' ∧ Below b w w' := by
  have HSZ := Lib.hid hs
  have HBL := Lib.hid hR.lt
  obtain ⟨q66, h66⟩ : ∃ q, decide (s.data.toList.head? = some 66) = q := ⟨_, rfl⟩
  obtain ⟨q87, h87⟩ : ∃ q, decide (s.data.toList.head? = some 87) = q := ⟨_, rfl⟩
  obtain ⟨q76, h76⟩ : ∃ q, decide (s.data.toList.head? = some 76) = q := ⟨_, rfl⟩
  obtain ⟨q84, h84⟩ : ∃ q, decide (s.data.toList.head? = some 84) = q := ⟨_, rfl⟩
  go_enter Tryd.func30, Tryd.ntmps30
  go_upto_block 0 with fail
  have hn1 := row_alloc w 24 (rbox 0 0 0 0 0 (.slice none 0 0) ⟨#[]⟩)
  have hb1 : Below w.heap.size w (w.alloc (.cells (rbox 0 0 0 0 0 (.slice none 0 0) ⟨#[]⟩).toArray 24)) := (Below.refl _ _).alloc (Nat.le_refl _) _
  have HT : Hid (RSt w (w.alloc (.cells #[.int .i64 0, .int .i64 0, .int .i64 0, .int .i64 0, .int .i64 0, .slice none 0 0, .string ⟨#[]⟩] 24)) w.heap.size b 0 0 0 0 0 ⟨#[]⟩ s 0 [] (.slice none 0 0)) := Lib.hid
    ⟨hn1, hR.keep hb1 hR.lt, ⟨rfl, .inl ⟨rfl, rfl⟩⟩, hb1.mono (Nat.le_of_lt hR.lt), hb1.size, hR.lt, Nat.le_refl _⟩
  clear hn1 hb1 hR hs
  generalize w.alloc (.cells #[.int .i64 0, .int .i64 0, .int .i64 0, .int .i64 0, .int .i64 0, .slice none 0 0, .string ⟨#[]⟩] 24) = w1 at *
  obtain ⟨ob, hob⟩ : ∃ ob, ob = w.heap.size := ⟨_, rfl⟩
  rw [← hob] at HT ⊢
  clear hob
  have HI : Hid (0 ≤ s.size) := Lib.hid (Nat.zero_le _)
  cases q66 with
  | true =>
    have hd : s.data.toList.head? = some 66 := of_decide_eq_true h66
    have HRO : Hid (ruleO s.data.toList = (riseR s.data.toList 1 0).on fun B i => wantO s.data.toList i 47 (wantO s.data.toList (i + 1) 83 ((riseR s.data.toList (i + 2) 0).on fun S j => endO s.data.toList j (.ok 1 B S 0 0 [] [])))) := Lib.hid (by unfold ruleO; rw [if_pos hd])
    have HL : Hid (0 < s.size) := Lib.hid (head_lt hd)
    clear hd
    have f0 := HT.out.r.cell 0
    unfold rdr at f0
    dsimp only [List.getElem?_cons_succ, List.getElem?_cons_zero] at f0
    go_wp2_with fail
    refine (pre_any s 66 w1 true h66).mono ?_
    rintro e9 w2 ⟨rfl, rfl⟩
    clear f0
    go_upto_region 3 with fail
    have z0 := HT.out.q.frozen 0
    have g0 := HT.out.q.cell 0
    unfold rbox at g0
    dsimp only [List.getElem?_cons_succ, List.getElem?_cons_zero] at g0
    go_upto_region 4 with fail
    clear z0 g0
    have HT := Lib.hid (HT.out.set0 (1))
    generalize w2.setCell ⟨ob, 0, none⟩ (.int .i64 (1)) = w3 at *
    have f1 := HT.out.r.cell 1
    have z1 := HT.out.r.frozen 1
    unfold rdr at f1
    dsimp only [List.getElem?_cons_succ, List.getElem?_cons_zero] at f1
    go_upto_region 5 with fail
    clear f1 z1
    have hon := only_setCell w3 b 1 (.int .i64 ((0 + 1 : Nat) : Int))
    have HT := Lib.hid (HT.out.read hon (HT.out.r.set 1 (.int .i64 ((0 + 1 : Nat) : Int))))
    clear hon
    change Code.wp _ _ _ _ (w3.setCell ⟨b, 1, none⟩ (.int .i64 ((0 + 1 : Nat) : Int)))
    generalize w3.setCell ⟨b, 1, none⟩ (.int .i64 ((0 + 1 : Nat) : Int)) = w4 at *
    have HI : Hid (1 ≤ s.size) := Lib.hid HL.out
    go_wp2_with fail
    refine (rising_any s b 1 w4 HSZ.out HI.out HT.out.r).mono ?_
    rintro e5 w5 ⟨hrd, ho⟩
    unfold RdP at hrd
    cases hq : riseR s.data.toList 1 0 with
    | bad p =>
      rw [hq] at hrd
      dsimp only at hrd
      subst hrd
      go_wp2_with fail
      exact ⟨rfl, ruP_bad (by rw [HRO.out, RN.on_bad hq]), HT.out.bl.trans (ho.below (Nat.le_refl _))⟩
    | ok B i =>
      rw [hq] at hrd
      obtain ⟨rfl, hr, hle⟩ := hrd
      have HRO := Lib.hid (HRO.out.trans (RN.on_ok hq))
      have HT := Lib.hid (HT.out.read ho hr)
      have HI := Lib.hid hle
      have HQB := Lib.hid hq
      clear hr ho hle hq
      have z1 := HT.out.q.frozen 1
      have g1 := HT.out.q.cell 1
      unfold rbox at g1
      dsimp only [List.getElem?_cons_succ, List.getElem?_cons_zero] at g1
      go_upto_region 6 with fail
      clear z1 g1
      have HT := Lib.hid (HT.out.set1 (((B : Nat) : Int)))
      generalize w5.setCell ⟨ob, 1, none⟩ (.int .i64 (((B : Nat) : Int))) = w6 at *
      go_wp2_with fail
      refine (want_any s b (i) 47 w6 HSZ.out HI.out HT.out.r).mono ?_
      rintro e7 w7 ⟨hw, ho⟩
      unfold WantP at hw
      by_cases hwc : i < s.data.toList.length ∧ s.data.toList.getD (i) 0 = 47
      rotate_left
      · rw [if_neg hwc] at hw
        subst hw
        go_wp2_with fail
        exact ⟨rfl, ruP_bad (by rw [HRO.out, wantO_bad hwc]), HT.out.bl.trans (ho.below (Nat.le_refl _))⟩
      rw [if_pos hwc] at hw
      obtain ⟨rfl, hr, hle⟩ := hw
      have HRO := Lib.hid (HRO.out.trans (wantO_ok hwc))
      have HT := Lib.hid (HT.out.read ho hr)
      have HI := Lib.hid hle
      clear hr ho hle hwc
      go_wp2_with fail
      refine (want_any s b (i + 1) 83 w7 HSZ.out HI.out HT.out.r).mono ?_
      rintro e8 w8 ⟨hw, ho⟩
      unfold WantP at hw
      by_cases hwc : i + 1 < s.data.toList.length ∧ s.data.toList.getD (i + 1) 0 = 83
      rotate_left
      · rw [if_neg hwc] at hw
        subst hw
        go_wp2_with fail
        exact ⟨rfl, ruP_bad (by rw [HRO.out, wantO_bad hwc]), HT.out.bl.trans (ho.below (Nat.le_refl _))⟩
      rw [if_pos hwc] at hw
      obtain ⟨rfl, hr, hle⟩ := hw
      have HRO := Lib.hid (HRO.out.trans (wantO_ok hwc))
      have HT := Lib.hid (HT.out.read ho hr)
      have HI := Lib.hid hle
      clear hr ho hle hwc
      go_wp2_with fail
      refine (rising_any s b (i + 2) w8 HSZ.out HI.out HT.out.r).mono ?_
      rintro e9 w9 ⟨hrd, ho⟩
      unfold RdP at hrd
      cases hq : riseR s.data.toList (i + 2) 0 with
      | bad p =>
        rw [hq] at hrd
        dsimp only at hrd
        subst hrd
        go_wp2_with fail
        exact ⟨rfl, ruP_bad (by rw [HRO.out, RN.on_bad hq]), HT.out.bl.trans (ho.below (Nat.le_refl _))⟩
      | ok S j =>
        rw [hq] at hrd
        obtain ⟨rfl, hr, hle⟩ := hrd
        have HRO := Lib.hid (HRO.out.trans (RN.on_ok hq))
        have HT := Lib.hid (HT.out.read ho hr)
        have HI := Lib.hid hle
        have HQS := Lib.hid hq
        clear hr ho hle hq
        have z2 := HT.out.q.frozen 2
        have g2 := HT.out.q.cell 2
        unfold rbox at g2
        dsimp only [List.getElem?_cons_succ, List.getElem?_cons_zero] at g2
        go_upto_region 42 with fail
        clear z2 g2
        have HT := Lib.hid (HT.out.set2 (((S : Nat) : Int)))
        generalize w9.setCell ⟨ob, 2, none⟩ (.int .i64 (((S : Nat) : Int))) = w10 at *
        obtain ⟨vs9, ht9⟩ : ∃ vs9, RSt _ _ _ _ _ _ _ _ _ _ _ _ _ vs9 := ⟨_, HT.out⟩
        have HT := Lib.hid ht9
        clear ht9
        go_wp2_with fail
        refine (end_any s b (j) w10 HSZ.out HI.out HT.out.r).mono ?_
        rintro e11 w11 ⟨hen, ho⟩
        unfold EndP at hen
        by_cases hlt : j < s.size
        · rw [if_pos hlt] at hen
          subst hen
          go_wp2_with fail
          exact ⟨rfl, ruP_bad (by rw [HRO.out, endO_bad hlt]), HT.out.bl.trans (ho.below (Nat.le_refl _))⟩
        rw [if_neg hlt] at hen
        subst hen
        have HRO := Lib.hid (HRO.out.trans (endO_ok hlt))
        have HQ := Lib.hid (HT.out.q.other ho (by have := HT.out.ne; omega))
        have HOW := Lib.hid (own_only HT.out.o ho (own_ne HT.out.o HT.out.r (by decide)))
        have HBL2 := Lib.hid (HT.out.bl.trans (ho.below (Nat.le_refl _)))
        have HNE := Lib.hid HT.out.ne
        clear ho hlt HT
        obtain ⟨av, cv, hve, _⟩ := own_is HOW.out
        subst hve
        have l5 := row_range HQ.out
        go_wp2_with (first | (refine wpList_load_mid rfl 24 _ rfl ob 0 rfl _ _ l5 Tryd.underlying24 rfl infoRul ?_) | (refine Ops.wpList_store_arr rfl 24 _ _ rfl ob rfl 24 _ _ rfl HQ.out rfl infoRul (rbox_one _ _ _ _ _ _ _ _ _) ?_; intro w12 hr9 ho9))
        refine bodyPost_ret (results_rule rfl _ _ hr9 rfl rfl) rfl ⟨ruP_ok HRO.out rfl ?_, HBL2.out.trans (ho9.below (by have := HNE.out; omega))⟩
        obtain ⟨_, _, hve2, _, _, his, hlo⟩ := own_is (own_only HOW.out ho9 (own_ne HOW.out HQ.out (by decide)))
        cases hve2
        exact ⟨his, hlo⟩
  | false =>
    have hd66 : ¬ s.data.toList.head? = some 66 := of_decide_eq_false h66
    have f0 := HT.out.r.cell 0
    unfold rdr at f0
    dsimp only [List.getElem?_cons_succ, List.getElem?_cons_zero] at f0
    go_wp2_with fail
    refine (pre_any s 66 w1 false h66).mono ?_
    rintro e9 w2 ⟨rfl, rfl⟩
    clear f0
    cases q87 with
    | true =>
      have hd : s.data.toList.head? = some 87 := of_decide_eq_true h87
      have HRO : Hid (ruleO s.data.toList = (numO s.data.toList 1 0 255).on fun n i => endO s.data.toList i (.ok 2 0 0 2 1 (bitsL n 8) [])) := Lib.hid (by unfold ruleO; rw [if_neg hd66, if_pos hd])
      have HL : Hid (0 < s.size) := Lib.hid (head_lt hd)
      clear hd hd66
      have f0 := HT.out.r.cell 0
      unfold rdr at f0
      dsimp only [List.getElem?_cons_succ, List.getElem?_cons_zero] at f0
      go_wp2_with fail
      refine (pre_any s 87 w2 true h87).mono ?_
      rintro e9 w3 ⟨rfl, rfl⟩
      clear f0
      go_upto_region 10 with fail
      have f1 := HT.out.r.cell 1
      have z1 := HT.out.r.frozen 1
      unfold rdr at f1
      dsimp only [List.getElem?_cons_succ, List.getElem?_cons_zero] at f1
      go_upto_region 11 with fail
      clear f1 z1
      have hon := only_setCell w3 b 1 (.int .i64 ((0 + 1 : Nat) : Int))
      have HT := Lib.hid (HT.out.read hon (HT.out.r.set 1 (.int .i64 ((0 + 1 : Nat) : Int))))
      clear hon
      change Code.wp _ _ _ _ (w3.setCell ⟨b, 1, none⟩ (.int .i64 ((0 + 1 : Nat) : Int)))
      generalize w3.setCell ⟨b, 1, none⟩ (.int .i64 ((0 + 1 : Nat) : Int)) = w4 at *
      have HI : Hid (1 ≤ s.size) := Lib.hid HL.out
      go_wp2_with fail
      refine (number_any s b 1 0 255 w4 HSZ.out HI.out (by decide) (by decide) HT.out.r).mono ?_
      rintro e5 w5 ⟨hrd, ho⟩
      unfold RdP at hrd
      cases hq : numO s.data.toList 1 0 255 with
      | bad p =>
        rw [hq] at hrd
        dsimp only at hrd
        subst hrd
        go_wp2_with fail
        exact ⟨rfl, ruP_bad (by rw [HRO.out, RN.on_bad hq]), HT.out.bl.trans (ho.below (Nat.le_refl _))⟩
      | ok n i =>
        rw [hq] at hrd
        obtain ⟨rfl, hr, hle⟩ := hrd
        have HRO := Lib.hid (HRO.out.trans (RN.on_ok hq))
        have HT := Lib.hid (HT.out.read ho hr)
        have HI := Lib.hid hle
        have HQn := Lib.hid hq
        clear hr ho hle hq
        have hq1 := HT.out.q
        go_upto_region 13 with (refine Ops.wpList_store_arr rfl 24 _ _ rfl ob rfl 24 _ (rbox 2 0 0 2 1 (.slice none 0 0) ⟨#[]⟩) rfl hq1 rfl infoRul (rbox_one _ _ _ _ _ _ _ _ _) ?_; intro w6 hr9 ho9)
        clear hq1
        have HT := Lib.hid (HT.out.all ho9 hr9)
        clear hr9 ho9
        have HNB : Hid (n < 512) := Lib.hid (by have h := numO_ok (by decide) HQn.out; omega)
        go_upto_block 1 with fail
        apply ru_bits (w0 := w) (s := s) (ob := ob) (b := b) (i := i) (n := n) (K := 2) (Bo := 0) (S := 0) (st := 2) (ra := 1) (tu := ⟨#[]⟩) (vs0 := .slice none 0 0)
        case hn => exact HNB.out
        case hT => exact HT.out
        case hnext =>
        intro u4 u49 u50 u51 u52 u53 u54 u55 u56 u57 u58 u59 u60 w7 hE
        clear HT
        obtain ⟨vs8, ht8⟩ := hE
        have HT := Lib.hid ht8
        clear ht8
        obtain ⟨vs9, ht9⟩ : ∃ vs9, RSt _ _ _ _ _ _ _ _ _ _ _ _ _ vs9 := ⟨_, HT.out⟩
        have HT := Lib.hid ht9
        clear ht9
        go_wp2_with fail
        refine (end_any s b (i) w7 HSZ.out HI.out HT.out.r).mono ?_
        rintro e8 w8 ⟨hen, ho⟩
        unfold EndP at hen
        by_cases hlt : i < s.size
        · rw [if_pos hlt] at hen
          subst hen
          go_wp2_with fail
          exact ⟨rfl, ruP_bad (by rw [HRO.out, endO_bad hlt]), HT.out.bl.trans (ho.below (Nat.le_refl _))⟩
        rw [if_neg hlt] at hen
        subst hen
        have HRO := Lib.hid (HRO.out.trans (endO_ok hlt))
        have HQ := Lib.hid (HT.out.q.other ho (by have := HT.out.ne; omega))
        have HOW := Lib.hid (own_only HT.out.o ho (own_ne HT.out.o HT.out.r (by decide)))
        have HBL2 := Lib.hid (HT.out.bl.trans (ho.below (Nat.le_refl _)))
        have HNE := Lib.hid HT.out.ne
        clear ho hlt HT
        obtain ⟨av, cv, hve, _⟩ := own_is HOW.out
        subst hve
        have l5 := row_range HQ.out
        go_wp2_with (first | (refine wpList_load_mid rfl 24 _ rfl ob 0 rfl _ _ l5 Tryd.underlying24 rfl infoRul ?_) | (refine Ops.wpList_store_arr rfl 24 _ _ rfl ob rfl 24 _ _ rfl HQ.out rfl infoRul (rbox_one _ _ _ _ _ _ _ _ _) ?_; intro w9 hr9 ho9))
        refine bodyPost_ret (results_rule rfl _ _ hr9 rfl rfl) rfl ⟨ruP_ok HRO.out rfl ?_, HBL2.out.trans (ho9.below (by have := HNE.out; omega))⟩
        obtain ⟨_, _, hve2, _, _, his, hlo⟩ := own_is (own_only HOW.out ho9 (own_ne HOW.out HQ.out (by decide)))
        cases hve2
        exact ⟨his, hlo⟩
    | false =>
      have hd87 : ¬ s.data.toList.head? = some 87 := of_decide_eq_false h87
      have f0 := HT.out.r.cell 0
      unfold rdr at f0
      dsimp only [List.getElem?_cons_succ, List.getElem?_cons_zero] at f0
      go_wp2_with fail
      refine (pre_any s 87 w2 false h87).mono ?_
      rintro e9 w3 ⟨rfl, rfl⟩
      clear f0
      cases q76 with
      | true =>
        have hd : s.data.toList.head? = some 76 := of_decide_eq_true h76
        have HRO : Hid (ruleO s.data.toList = wantO s.data.toList 1 32 ((numO s.data.toList 2 2 4).on fun st i => wantO s.data.toList i 32 ((numO s.data.toList (i + 1) 0 2).on fun ra j => wantO s.data.toList j 32 (match tabO s.data.toList st (j + 1) (st ^ (2 * ra + 1)) with
          | some p => .bad p
          | none => endO s.data.toList (j + 1 + st ^ (2 * ra + 1)) (.ok 2 0 0 st ra (digL s.data.toList (j + 1) (st ^ (2 * ra + 1))) []))))) := Lib.hid (by unfold ruleO; rw [if_neg hd66, if_neg hd87, if_pos hd]; rfl)
        have HL : Hid (0 < s.size) := Lib.hid (head_lt hd)
        clear hd hd66 hd87
        have f0 := HT.out.r.cell 0
        unfold rdr at f0
        dsimp only [List.getElem?_cons_succ, List.getElem?_cons_zero] at f0
        go_wp2_with fail
        refine (pre_any s 76 w3 true h76).mono ?_
        rintro e9 w4 ⟨rfl, rfl⟩
        clear f0
        go_upto_region 19 with fail
        have f1 := HT.out.r.cell 1
        have z1 := HT.out.r.frozen 1
        unfold rdr at f1
        dsimp only [List.getElem?_cons_succ, List.getElem?_cons_zero] at f1
        go_upto_region 20 with fail
        clear f1 z1
        have hon := only_setCell w4 b 1 (.int .i64 ((0 + 1 : Nat) : Int))
        have HT := Lib.hid (HT.out.read hon (HT.out.r.set 1 (.int .i64 ((0 + 1 : Nat) : Int))))
        clear hon
        change Code.wp _ _ _ _ (w4.setCell ⟨b, 1, none⟩ (.int .i64 ((0 + 1 : Nat) : Int)))
        generalize w4.setCell ⟨b, 1, none⟩ (.int .i64 ((0 + 1 : Nat) : Int)) = w5 at *
        have HI : Hid (1 ≤ s.size) := Lib.hid HL.out
        go_wp2_with fail
        refine (want_any s b (1) 32 w5 HSZ.out HI.out HT.out.r).mono ?_
        rintro e6 w6 ⟨hw, ho⟩
        unfold WantP at hw
        by_cases hwc : 1 < s.data.toList.length ∧ s.data.toList.getD (1) 0 = 32
        rotate_left
        · rw [if_neg hwc] at hw
          subst hw
          go_wp2_with fail
          exact ⟨rfl, ruP_bad (by rw [HRO.out, wantO_bad hwc]), HT.out.bl.trans (ho.below (Nat.le_refl _))⟩
        rw [if_pos hwc] at hw
        obtain ⟨rfl, hr, hle⟩ := hw
        have HRO := Lib.hid (HRO.out.trans (wantO_ok hwc))
        have HT := Lib.hid (HT.out.read ho hr)
        have HI := Lib.hid hle
        clear hr ho hle hwc
        go_wp2_with fail
        refine (number_any s b 2 2 4 w6 HSZ.out HI.out (by decide) (by decide) HT.out.r).mono ?_
        rintro e7 w7 ⟨hrd, ho⟩
        unfold RdP at hrd
        cases hq : numO s.data.toList 2 2 4 with
        | bad p =>
          rw [hq] at hrd
          dsimp only at hrd
          subst hrd
          go_wp2_with fail
          exact ⟨rfl, ruP_bad (by rw [HRO.out, RN.on_bad hq]), HT.out.bl.trans (ho.below (Nat.le_refl _))⟩
        | ok st i =>
          rw [hq] at hrd
          obtain ⟨rfl, hr, hle⟩ := hrd
          have HRO := Lib.hid (HRO.out.trans (RN.on_ok hq))
          have HT := Lib.hid (HT.out.read ho hr)
          have HI := Lib.hid hle
          have HQst := Lib.hid hq
          clear hr ho hle hq
          have hq1 := HT.out.q
          go_upto_region 22 with (refine Ops.wpList_store_arr rfl 24 _ _ rfl ob rfl 24 _ (rbox 2 0 0 (st : Nat) 0 (.slice none 0 0) ⟨#[]⟩) rfl hq1 rfl infoRul (rbox_one _ _ _ _ _ _ _ _ _) ?_; intro w8 hr9 ho9)
          clear hq1
          have HT := Lib.hid (HT.out.all ho9 hr9)
          clear hr9 ho9
          go_wp2_with fail
          refine (want_any s b (i) 32 w8 HSZ.out HI.out HT.out.r).mono ?_
          rintro e9 w9 ⟨hw, ho⟩
          unfold WantP at hw
          by_cases hwc : i < s.data.toList.length ∧ s.data.toList.getD (i) 0 = 32
          rotate_left
          · rw [if_neg hwc] at hw
            subst hw
            go_wp2_with fail
            exact ⟨rfl, ruP_bad (by rw [HRO.out, wantO_bad hwc]), HT.out.bl.trans (ho.below (Nat.le_refl _))⟩
          rw [if_pos hwc] at hw
          obtain ⟨rfl, hr, hle⟩ := hw
          have HRO := Lib.hid (HRO.out.trans (wantO_ok hwc))
          have HT := Lib.hid (HT.out.read ho hr)
          have HI := Lib.hid hle
          clear hr ho hle hwc
          go_wp2_with fail
          refine (number_any s b (i + 1) 0 2 w9 HSZ.out HI.out (by decide) (by decide) HT.out.r).mono ?_
          rintro e10 w10 ⟨hrd, ho⟩
          unfold RdP at hrd
          cases hq : numO s.data.toList (i + 1) 0 2 with
          | bad p =>
            rw [hq] at hrd
            dsimp only at hrd
            subst hrd
            go_wp2_with fail
            exact ⟨rfl, ruP_bad (by rw [HRO.out, RN.on_bad hq]), HT.out.bl.trans (ho.below (Nat.le_refl _))⟩
          | ok ra j =>
            rw [hq] at hrd
            obtain ⟨rfl, hr, hle⟩ := hrd
            have HRO := Lib.hid (HRO.out.trans (RN.on_ok hq))
            have HT := Lib.hid (HT.out.read ho hr)
            have HI := Lib.hid hle
            have HQra := Lib.hid hq
            clear hr ho hle hq
            have z4 := HT.out.q.frozen 4
            have g4 := HT.out.q.cell 4
            unfold rbox at g4
            dsimp only [List.getElem?_cons_succ, List.getElem?_cons_zero] at g4
            go_upto_region 24 with fail
            clear z4 g4
            have HT := Lib.hid (HT.out.set4 (((ra : Nat) : Int)))
            generalize w10.setCell ⟨ob, 4, none⟩ (.int .i64 (((ra : Nat) : Int))) = w11 at *
            go_wp2_with fail
            refine (want_any s b (j) 32 w11 HSZ.out HI.out HT.out.r).mono ?_
            rintro e12 w12 ⟨hw, ho⟩
            unfold WantP at hw
            by_cases hwc : j < s.data.toList.length ∧ s.data.toList.getD (j) 0 = 32
            rotate_left
            · rw [if_neg hwc] at hw
              subst hw
              go_wp2_with fail
              exact ⟨rfl, ruP_bad (by rw [HRO.out, wantO_bad hwc]), HT.out.bl.trans (ho.below (Nat.le_refl _))⟩
            rw [if_pos hwc] at hw
            obtain ⟨rfl, hr, hle⟩ := hw
            have HRO := Lib.hid (HRO.out.trans (wantO_ok hwc))
            have HT := Lib.hid (HT.out.read ho hr)
            have HI := Lib.hid hle
            clear hr ho hle hwc
            have HB1 : Hid (st ≤ 4 ∧ 2 * ra + 1 ≤ 5) := Lib.hid (by have h := numO_ok (by decide) HQst.out; have h2 := numO_ok (by decide) HQra.out; omega)
            have g3 := HT.out.q.cell 3
            have g4 := HT.out.q.cell 4
            unfold rbox at g3 g4
            dsimp only [List.getElem?_cons_succ, List.getElem?_cons_zero] at g3 g4
            obtain ⟨m2, hm2⟩ : ∃ m2, m2 = 2 * ra := ⟨_, rfl⟩
            obtain ⟨m3, hm3⟩ : ∃ m3, m3 = 2 * ra + 1 := ⟨_, rfl⟩
            have P1 : Hid (wrap64 (2 * (ra : Int)) = ((m2 : Nat) : Int)) := Lib.hid (wr_nat (by rw [hm2]; push_cast; rfl) (by have := HB1.out; omega))
            have P2 : Hid (wrap64 (((m2 : Nat) : Int) + 1) = ((m3 : Nat) : Int)) := Lib.hid (wr_nat (by rw [hm2, hm3]; push_cast; rfl) (by have := HB1.out; omega))
            rw [← hm3] at HB1 HRO
            have HPW := Lib.hid (power_any st m3 w12 HB1.out.1 HB1.out.2)
            have HC : Hid (st ^ m3 ≤ 1024) := Lib.hid (Nat.le_trans (Nat.pow_le_pow_left HB1.out.1 _) (Nat.le_trans (Nat.pow_le_pow_right (by decide) HB1.out.2) (by decide)))
            obtain ⟨cnt, hcnt⟩ : ∃ cnt, cnt = st ^ m3 := ⟨_, rfl⟩
            rw [← hcnt] at HPW HC HRO
            clear hm2 hm3
            clear hcnt
            have p1 := P1.out
            have p2 := P2.out
            go_wp2_with fail
            refine HPW.out.mono ?_
            rintro e13 w13 ⟨rfl, rfl⟩
            clear g3 g4 p1 p2
            go_upto_block 3 with fail
            apply ru_tab (w0 := w) (s := s) (ob := ob) (b := b) (i := j + 1) (cnt := cnt) (st := st) (K := 2) (Bo := 0) (S := 0) (ra := ra) (tu := ⟨#[]⟩) (vs0 := .slice none 0 0)
            case hs => exact HSZ.out
            case hi => exact HI.out
            case hc => exact HC.out
            case hst => exact HB1.out.1
            case hT => exact HT.out
            case hbad =>
              intro a9 w9 p hd9 hp hbl
              exact ⟨hd9, ruP_bad (by rw [HRO.out, hp]), hbl⟩
            case hnext =>
            intro u94 u95 u96 u97 u98 u99 u100 u101 u102 u103 u104 u105 u106 u107 u108 u109 u110 u111 u112 u113 u114 u115 u116 u117 u118 u119 u120 u121 u122 u123 u124 u125 u126 u127 u128 u129 u130 u131 u132 u133 u134 u135 u136 u137 u138 u139 u140 u141 u142 u143 u144 u145 u146 u147 u148 u149 u150 u151 u152 u153 u154 u155 u156 u157 u158 u159 u160 u161 u162 w14 hnone hle hE
            clear HT
            obtain ⟨vs8, ht8⟩ := hE
            have HT := Lib.hid ht8
            have HI := Lib.hid hle
            have HRO := Lib.hid (HRO.out.trans (by rw [hnone]))
            clear ht8 hnone hle
            obtain ⟨vs9, ht9⟩ : ∃ vs9, RSt _ _ _ _ _ _ _ _ _ _ _ _ _ vs9 := ⟨_, HT.out⟩
            have HT := Lib.hid ht9
            clear ht9
            go_wp2_with fail
            refine (end_any s b (j + 1 + cnt) w14 HSZ.out HI.out HT.out.r).mono ?_
            rintro e15 w15 ⟨hen, ho⟩
            unfold EndP at hen
            by_cases hlt : j + 1 + cnt < s.size
            · rw [if_pos hlt] at hen
              subst hen
              go_wp2_with fail
              exact ⟨rfl, ruP_bad (by rw [HRO.out, endO_bad hlt]), HT.out.bl.trans (ho.below (Nat.le_refl _))⟩
            rw [if_neg hlt] at hen
            subst hen
            have HRO := Lib.hid (HRO.out.trans (endO_ok hlt))
            have HQ := Lib.hid (HT.out.q.other ho (by have := HT.out.ne; omega))
            have HOW := Lib.hid (own_only HT.out.o ho (own_ne HT.out.o HT.out.r (by decide)))
            have HBL2 := Lib.hid (HT.out.bl.trans (ho.below (Nat.le_refl _)))
            have HNE := Lib.hid HT.out.ne
            clear ho hlt HT
            obtain ⟨av, cv, hve, _⟩ := own_is HOW.out
            subst hve
            have l5 := row_range HQ.out
            go_wp2_with (first | (refine wpList_load_mid rfl 24 _ rfl ob 0 rfl _ _ l5 Tryd.underlying24 rfl infoRul ?_) | (refine Ops.wpList_store_arr rfl 24 _ _ rfl ob rfl 24 _ _ rfl HQ.out rfl infoRul (rbox_one _ _ _ _ _ _ _ _ _) ?_; intro w16 hr9 ho9))
            refine bodyPost_ret (results_rule rfl _ _ hr9 rfl rfl) rfl ⟨ruP_ok HRO.out rfl ?_, HBL2.out.trans (ho9.below (by have := HNE.out; omega))⟩
            obtain ⟨_, _, hve2, _, _, his, hlo⟩ := own_is (own_only HOW.out ho9 (own_ne HOW.out HQ.out (by decide)))
            cases hve2
            exact ⟨his, hlo⟩
      | false =>
        have hd76 : ¬ s.data.toList.head? = some 76 := of_decide_eq_false h76
        have f0 := HT.out.r.cell 0
        unfold rdr at f0
        dsimp only [List.getElem?_cons_succ, List.getElem?_cons_zero] at f0
        go_wp2_with fail
        refine (pre_any s 76 w3 false h76).mono ?_
        rintro e9 w4 ⟨rfl, rfl⟩
        clear f0
        cases q84 with
        | true =>
          have hd : s.data.toList.head? = some 84 := of_decide_eq_true h84
          obtain ⟨fr, hfr⟩ : ∃ fr, fr = 2 := ⟨_, rfl⟩
          have HRO : Hid (ruleO s.data.toList = wantO s.data.toList 1 32 (if lrs s.data.toList fr 26 = 0 then .bad fr else endO s.data.toList (fr + lrs s.data.toList fr 26) (.ok 3 0 0 0 0 [] ((s.data.toList.drop fr).take (lrs s.data.toList fr 26))))) := Lib.hid (by rw [hfr]; unfold ruleO; rw [if_neg hd66, if_neg hd87, if_neg hd76, if_pos hd])
          have HL : Hid (0 < s.size) := Lib.hid (head_lt hd)
          have HFR := Lib.hid hfr
          clear hd hd66 hd87 hd76 hfr
          have f0 := HT.out.r.cell 0
          unfold rdr at f0
          dsimp only [List.getElem?_cons_succ, List.getElem?_cons_zero] at f0
          go_wp2_with fail
          refine (pre_any s 84 w4 true h84).mono ?_
          rintro e9 w5 ⟨rfl, rfl⟩
          clear f0
          go_upto_region 33 with fail
          have z0 := HT.out.q.frozen 0
          have g0 := HT.out.q.cell 0
          unfold rbox at g0
          dsimp only [List.getElem?_cons_succ, List.getElem?_cons_zero] at g0
          go_upto_region 34 with fail
          clear z0 g0
          have HT := Lib.hid (HT.out.set0 (3))
          generalize w5.setCell ⟨ob, 0, none⟩ (.int .i64 (3)) = w6 at *
          have f1 := HT.out.r.cell 1
          have z1 := HT.out.r.frozen 1
          unfold rdr at f1
          dsimp only [List.getElem?_cons_succ, List.getElem?_cons_zero] at f1
          go_upto_region 35 with fail
          clear f1 z1
          have hon := only_setCell w6 b 1 (.int .i64 ((0 + 1 : Nat) : Int))
          have HT := Lib.hid (HT.out.read hon (HT.out.r.set 1 (.int .i64 ((0 + 1 : Nat) : Int))))
          clear hon
          change Code.wp _ _ _ _ (w6.setCell ⟨b, 1, none⟩ (.int .i64 ((0 + 1 : Nat) : Int)))
          generalize w6.setCell ⟨b, 1, none⟩ (.int .i64 ((0 + 1 : Nat) : Int)) = w7 at *
          have HI : Hid (1 ≤ s.size) := Lib.hid HL.out
          go_wp2_with fail
          refine (want_any s b (1) 32 w7 HSZ.out HI.out HT.out.r).mono ?_
          rintro e8 w8 ⟨hw, ho⟩
          unfold WantP at hw
          by_cases hwc : 1 < s.data.toList.length ∧ s.data.toList.getD (1) 0 = 32
          rotate_left
          · rw [if_neg hwc] at hw
            subst hw
            go_wp2_with fail
            exact ⟨rfl, ruP_bad (by rw [HRO.out, wantO_bad hwc]), HT.out.bl.trans (ho.below (Nat.le_refl _))⟩
          rw [if_pos hwc] at hw
          obtain ⟨rfl, hr, hle⟩ := hw
          have HRO := Lib.hid (HRO.out.trans (wantO_ok hwc))
          have HT := Lib.hid (HT.out.read ho hr)
          have HI := Lib.hid hle
          clear hr ho hle hwc
          have hfr := HFR.out
          have HT : Hid (RSt w w8 ob b 3 0 0 0 0 ⟨#[]⟩ s fr [] (.slice none 0 0)) := Lib.hid (by rw [hfr]; exact HT.out)
          have HI : Hid (fr ≤ s.size) := Lib.hid (by rw [hfr]; exact HI.out)
          clear hfr
          have f1 := HT.out.r.cell 1
          unfold rdr at f1
          dsimp only [List.getElem?_cons_succ, List.getElem?_cons_zero] at f1
          go_upto_block 5 with fail
          clear f1
          apply ru_lr (w := w8) (s := s) (b := b) (i := fr)
          case hs => exact HSZ.out
          case hi => exact HI.out
          case hR => exact HT.out.r
          case hnext =>
          intro u183 u184 u185 u186 u187 u188 u189 u190 u191 u192 u193 u194 u195 u196 u197 u198 u199 u200 u201 u202 u203 u204 u205 u206 u207 u208 u209 u210 u211 u212 u213 u214 u215 u216 u217 u218 u219 u220 u221 u222 u223 u224 u225 u226 u227 u228 u229 u230 u231 u232 w9 hr ho
          have HT := Lib.hid (HT.out.read ho hr)
          clear hr ho
          have hll := (lrs_le s.data.toList 26 fr)
          obtain ⟨n, hn⟩ : ∃ n, n = lrs s.data.toList fr 26 := ⟨_, rfl⟩
          rw [← hn] at HT HRO hll
          obtain ⟨z, hz⟩ : ∃ z, z = fr + n := ⟨_, rfl⟩
          rw [← hz] at HT HRO
          have HZE := Lib.hid hz
          have HZL : Hid (z ≤ s.size) := Lib.hid (by have h := hll.2 (by rw [← Lib.size_eq]; exact HI.out); rw [← Lib.size_eq] at h; omega)
          have HSZ2 : Hid (fr ≤ 2) := Lib.hid (by rw [HFR.out]; exact Nat.le_refl _)
          clear hn hll hz
          have f1 := HT.out.r.cell 1
          unfold rdr at f1
          dsimp only [List.getElem?_cons_succ, List.getElem?_cons_zero] at f1
          by_cases hn0 : n = 0
          · have hzf : ((z : Int) == (fr : Int)) = true := by rw [beq_iff_eq]; have := HZE.out; omega
            have HBD : Hid (ruleO s.data.toList = .bad z) := Lib.hid (by rw [HRO.out, if_pos hn0, show z = fr by have := HZE.out; omega])
            clear hn0
            go_wp2_with fail
            refine (fail_any _ z w9).mono ?_
            rintro e9 w9 ⟨rfl, rfl⟩
            go_wp2_with fail
            exact ⟨rfl, ruP_bad HBD.out, HT.out.bl⟩
          have hzf : ((z : Int) == (fr : Int)) = false := by rw [beq_eq_false_iff_ne]; have := HZE.out; omega
          have HRO := Lib.hid (HRO.out.trans (if_neg hn0))
          have hle1 : (fr : Int) ≤ (z : Int) := by have := HZE.out; omega
          have hle2 : (z : Int) ≤ (s.size : Int) := by have := HZL.out; omega
          clear hn0
          go_upto_region 41 with fail
          clear f1 hzf
          have HTd := Lib.hid HT.out.drew
          clear HT
          refine wp_region_noPanic ?_
          refine Rt.region_Cn (Sc2 (fun w2 => w2.cell? ⟨b, 0, none⟩ = some (.string s) ∧ w2.cell? ⟨b, 1, none⟩ = some (.int .i64 ((z : Nat) : Int))) (fun w2 => True) 999) 12 #[false, false, false, false, false, false, false, false, false, false, false, false] (by kernel_rfl) (by kernel_rfl) (by kernel_rfl) ?_
          have hS1 : ∀ o, Sc2 (fun w2 => w2.cell? ⟨b, 0, none⟩ = some (.string s) ∧ w2.cell? ⟨b, 1, none⟩ = some (.int .i64 ((z : Nat) : Int))) (fun w2 => True) 999 o w9.drew := Sc2.of ⟨HTd.out.r.cell 0, HTd.out.r.cell 1⟩ trivial
          refine Rt.C_take (none) (i := 0) (oi := _) (v := ?_) rfl (by kernel_rfl) (by kernel_rfl) (by kernel_rfl) (by kernel_rfl) (fun _ _ _ h => h) (Sc2.other (by decide)) (Or.inl ⟨by rfl, ?_⟩) (fun o' _ => hS1 o') ?_
          rotate_left
          · intro w2 hSw
            obtain ⟨s0, s1⟩ := hSw
            go_simp
            try with_reducible rfl
          simp only [Act.put, List.getElem_toArray, List.getElem_cons_succ, List.getElem_cons_zero, List.setIfInBounds_toArray, List.set_cons_zero, List.set_cons_succ]
          refine Rt.C_take (none) (i := 1) (oi := _) (v := ?_) rfl (by kernel_rfl) (by kernel_rfl) (by kernel_rfl) (by kernel_rfl) (fun _ _ _ h => h) (Sc2.other (by decide)) (Or.inl ⟨by rfl, ?_⟩) (fun o' _ => hS1 o') ?_
          rotate_left
          · intro w2 hSw
            obtain ⟨s0, s1⟩ := hSw
            go_simp
            try with_reducible rfl
          simp only [Act.put, List.getElem_toArray, List.getElem_cons_succ, List.getElem_cons_zero, List.setIfInBounds_toArray, List.set_cons_zero, List.set_cons_succ]
          refine Rt.C_take (none) (i := 2) (oi := _) (v := ?_) rfl (by kernel_rfl) (by kernel_rfl) (by kernel_rfl) (by kernel_rfl) (fun _ _ _ h => h) (Sc2.other (by decide)) (Or.inl ⟨by rfl, ?_⟩) (fun o' _ => hS1 o') ?_
          rotate_left
          · intro w2 hSw
            obtain ⟨s0, s1⟩ := hSw
            go_simp
            try with_reducible rfl
          simp only [Act.put, List.getElem_toArray, List.getElem_cons_succ, List.getElem_cons_zero, List.setIfInBounds_toArray, List.set_cons_zero, List.set_cons_succ]
          refine Rt.C_take (none) (i := 3) (oi := _) (v := ?_) rfl (by kernel_rfl) (by kernel_rfl) (by kernel_rfl) (by kernel_rfl) (fun _ _ _ h => h) (Sc2.other (by decide)) (Or.inl ⟨by rfl, ?_⟩) (fun o' _ => hS1 o') ?_
          rotate_left
          · intro w2 hSw
            obtain ⟨s0, s1⟩ := hSw
            go_simp
            try with_reducible rfl
          simp only [Act.put, List.getElem_toArray, List.getElem_cons_succ, List.getElem_cons_zero, List.setIfInBounds_toArray, List.set_cons_zero, List.set_cons_succ]
          refine Rt.C_take (none) (i := 4) (oi := _) (v := ?_) rfl (by kernel_rfl) (by kernel_rfl) (by kernel_rfl) (by kernel_rfl) (fun _ _ _ h => h) (Sc2.other (by decide)) (Or.inl ⟨by rfl, ?_⟩) (fun o' _ => hS1 o') ?_
          rotate_left
          · intro w2 hSw
            obtain ⟨s0, s1⟩ := hSw
            go_simp
            try with_reducible rfl
          simp only [Act.put, List.getElem_toArray, List.getElem_cons_succ, List.getElem_cons_zero, List.setIfInBounds_toArray, List.set_cons_zero, List.set_cons_succ]
          refine Rt.C_take (none) (i := 5) (oi := _) (v := ?_) rfl (by kernel_rfl) (by kernel_rfl) (by kernel_rfl) (by kernel_rfl) (fun _ _ _ h => h) (Sc2.other (by decide)) (Or.inl ⟨by rfl, ?_⟩) (fun o' _ => hS1 o') ?_
          rotate_left
          · intro w2 hSw
            obtain ⟨s0, s1⟩ := hSw
            go_simp
            try with_reducible rfl
          simp only [Act.put, List.getElem_toArray, List.getElem_cons_succ, List.getElem_cons_zero, List.setIfInBounds_toArray, List.set_cons_zero, List.set_cons_succ]
          refine Rt.C_take (none) (i := 6) (oi := _) (v := ?_) rfl (by kernel_rfl) (by kernel_rfl) (by kernel_rfl) (by kernel_rfl) (fun _ _ _ h => h) (Sc2.other (by decide)) (Or.inl ⟨by rfl, ?_⟩) (fun o' _ => hS1 o') ?_
          rotate_left
          · intro w2 hSw
            obtain ⟨s0, s1⟩ := hSw
            go_simp
            try with_reducible rfl
          simp only [Act.put, List.getElem_toArray, List.getElem_cons_succ, List.getElem_cons_zero, List.setIfInBounds_toArray, List.set_cons_zero, List.set_cons_succ]
          refine Rt.C_take (none) (i := 7) (oi := _) (v := ?_) rfl (by kernel_rfl) (by kernel_rfl) (by kernel_rfl) (by kernel_rfl) (fun _ _ _ h => h) (Sc2.other (by decide)) (Or.inl ⟨by rfl, ?_⟩) (fun o' _ => hS1 o') ?_
          rotate_left
          · intro w2 hSw
            obtain ⟨s0, s1⟩ := hSw
            go_simp
            try with_reducible rfl
          simp only [Act.put, List.getElem_toArray, List.getElem_cons_succ, List.getElem_cons_zero, List.setIfInBounds_toArray, List.set_cons_zero, List.set_cons_succ]
          refine Rt.C_take (none) (i := 8) (oi := _) (v := ?_) rfl (by kernel_rfl) (by kernel_rfl) (by kernel_rfl) (by kernel_rfl) (fun _ _ _ h => h) (Sc2.other (by decide)) (Or.inl ⟨by rfl, ?_⟩) (fun o' _ => hS1 o') ?_
          rotate_left
          · intro w2 hSw
            obtain ⟨s0, s1⟩ := hSw
            go_simp
            try with_reducible rfl
          simp only [Act.put, List.getElem_toArray, List.getElem_cons_succ, List.getElem_cons_zero, List.setIfInBounds_toArray, List.set_cons_zero, List.set_cons_succ]
          refine Rt.C_take (none) (i := 9) (oi := _) (v := (.string (s.extract fr z))) rfl (by kernel_rfl) (by kernel_rfl) (by kernel_rfl) (by kernel_rfl) (fun _ _ _ h => h) (Sc2.other (by decide)) (Or.inl ⟨by rfl, ?_⟩) (fun o' _ => hS1 o') ?_
          · intro w2 hSw
            obtain ⟨s0, s1⟩ := hSw
            go_simp
            try with_reducible rfl
          simp only [Act.put, List.getElem_toArray, List.getElem_cons_succ, List.getElem_cons_zero, List.setIfInBounds_toArray, List.set_cons_zero, List.set_cons_succ]
          refine Rt.C_take (none) (i := 10) (oi := _) (v := ?_) rfl (by kernel_rfl) (by kernel_rfl) (by kernel_rfl) (by kernel_rfl) (fun _ _ _ h => h) (Sc2.other (by decide)) (Or.inl ⟨by rfl, ?_⟩) (fun o' _ => hS1 o') ?_
          rotate_left
          · intro w2 hSw
            obtain ⟨s0, s1⟩ := hSw
            go_simp
            try with_reducible rfl
          simp only [Act.put, List.getElem_toArray, List.getElem_cons_succ, List.getElem_cons_zero, List.setIfInBounds_toArray, List.set_cons_zero, List.set_cons_succ]
          clear hS1
          refine Rt.C_ready (rs := [11]) (by kernel_rfl) (by simp) ?_
          refine Rt.AllC.cons (i := 11) (o := _) rfl (by rfl) (fun K' hK => ?_) ?_
          · skip
            have c6 := HTd.out.q.cell 6
            have z6 := HTd.out.q.frozen 6
            unfold rbox at c6
            dsimp only [List.getElem?_cons_succ, List.getElem?_cons_zero] at c6
            go_simp
            clear c6 z6
            have HT := Lib.hid (HTd.out.set6 (s.extract fr z))
            refine hK _ _ (fun o _ => Sc2.of ⟨HT.out.r.cell 0, HT.out.r.cell 1⟩ trivial o) ?_
            clear hK K'
            simp only [Act.put, List.getElem_toArray, List.getElem_cons_succ, List.getElem_cons_zero, List.setIfInBounds_toArray, List.set_cons_zero, List.set_cons_succ]
            refine Rt.C_done (by kernel_rfl) ?_ _
            refine NoPanic.normal ?_
            clear HTd hle1 hle2
            have HT := Lib.hid (show RSt w (w9.setCell ⟨ob, 6, none⟩ (.string (s.extract fr z))).drew ob b 3 0 0 0 0 (s.extract fr z) s z [] (.slice none 0 0) from HT.out)
            generalize (w9.setCell ⟨ob, 6, none⟩ (.string (s.extract fr z))).drew = w10 at *
            have HI := Lib.hid HZL.out
            have hex : s.extract fr z = ⟨((s.data.toList.drop fr).take n).toArray⟩ := ext_two (by have := HZE.out; omega)
            rw [hex] at HT
            clear hex
            obtain ⟨vs9, ht9⟩ : ∃ vs9, RSt _ _ _ _ _ _ _ _ _ _ _ _ _ vs9 := ⟨_, HT.out⟩
            have HT := Lib.hid ht9
            clear ht9
            go_wp2_with fail
            refine (end_any s b (z) w10 HSZ.out HI.out HT.out.r).mono ?_
            rintro e11 w11 ⟨hen, ho⟩
            unfold EndP at hen
            by_cases hlt : z < s.size
            · rw [if_pos hlt] at hen
              subst hen
              go_wp2_with fail
              exact ⟨rfl, ruP_bad (by rw [HRO.out, endO_bad hlt]), HT.out.bl.trans (ho.below (Nat.le_refl _))⟩
            rw [if_neg hlt] at hen
            subst hen
            have HRO := Lib.hid (HRO.out.trans (endO_ok hlt))
            have HQ := Lib.hid (HT.out.q.other ho (by have := HT.out.ne; omega))
            have HOW := Lib.hid (own_only HT.out.o ho (own_ne HT.out.o HT.out.r (by decide)))
            have HBL2 := Lib.hid (HT.out.bl.trans (ho.below (Nat.le_refl _)))
            have HNE := Lib.hid HT.out.ne
            clear ho hlt HT
            obtain ⟨av, cv, hve, _⟩ := own_is HOW.out
            subst hve
            have l5 := row_range HQ.out
            go_wp2_with (first | (refine wpList_load_mid rfl 24 _ rfl ob 0 rfl _ _ l5 Tryd.underlying24 rfl infoRul ?_) | (refine Ops.wpList_store_arr rfl 24 _ _ rfl ob rfl 24 _ _ rfl HQ.out rfl infoRul (rbox_one _ _ _ _ _ _ _ _ _) ?_; intro w12 hr9 ho9))
            refine bodyPost_ret (results_rule rfl _ _ hr9 rfl rfl) rfl ⟨ruP_ok HRO.out rfl ?_, HBL2.out.trans (ho9.below (by have := HNE.out; omega))⟩
            obtain ⟨_, _, hve2, _, _, his, hlo⟩ := own_is (own_only HOW.out ho9 (own_ne HOW.out HQ.out (by decide)))
            cases hve2
            exact ⟨his, hlo⟩
          exact Rt.AllC.nil
        | false =>
          have hd84 : ¬ s.data.toList.head? = some 84 := of_decide_eq_false h84
          have HRO : Hid (ruleO s.data.toList = .bad 0) := Lib.hid (by unfold ruleO; rw [if_neg hd66, if_neg hd87, if_neg hd76, if_neg hd84])
          clear hd66 hd87 hd76 hd84
          have f0 := HT.out.r.cell 0
          unfold rdr at f0
          dsimp only [List.getElem?_cons_succ, List.getElem?_cons_zero] at f0
          go_wp2_with fail
          refine (pre_any s 84 w4 false h84).mono ?_
          rintro e9 w5 ⟨rfl, rfl⟩
          clear f0
          go_wp2_with fail
          refine (fail_any _ 0 w5).mono ?_
          rintro e9 w9 ⟨rfl, rfl⟩
          go_wp2_with fail
          exact ⟨rfl, ruP_bad HRO.out, HT.out.bl⟩

end Pr
end Go.Proofs.YtgagophijmiceaaDoor
