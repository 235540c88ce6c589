/- WALK: edenref1.Parse: a grid's rule, an old number. -/
import Derived.Test.YtgagophijmiceaaDoorRuQ2
namespace Go.Proofs.YtgagophijmiceaaDoor
set_option linter.unusedSimpArgs false
set_option linter.unusedVariables false
open Go.RowKit
namespace Pr
open Tld Mem Bl Pn Pw Rd

theorem str_ne {s : ByteArray} (h : ¬ s.size = 0) : s.toList.isEmpty = false := by
  rw [Lib.toList_data]
  obtain ⟨⟨l⟩⟩ := s
  cases l with
  | nil => exact absurd rfl h
  | cons _ _ => rfl
/-- What the document's Parse hands back. -/
def PaQ (l : List UInt8) (e : Ending) (w' : World) : Prop := match ruleO l with
  | .bad p => e = .returned (.tuple #[.agg #[.int .i64 0, .int .i64 0, .int .i64 0, .int .i64 0, .int .i64 0, .slice none 0 0, .string ⟨#[]⟩], .int .i64 (p : Nat), .bool false])
  | .ok K B S st ra zs tu => ∃ a n c, e = .returned (.tuple #[.agg #[.int .i64 (K : Nat), .int .i64 (B : Nat), .int .i64 (S : Nat), .int .i64 (st : Nat), .int .i64 (ra : Nat), .slice a n c, .string ⟨tu.toArray⟩], .int .i64 0, .bool true]) ∧ Ints.Is w' a n zs
theorem paQ_bad {l : List UInt8} {w' : World} {p : Nat} (h : ruleO l = .bad p) : PaQ l (.returned (.tuple #[.agg #[.int .i64 0, .int .i64 0, .int .i64 0, .int .i64 0, .int .i64 0, .slice none 0 0, .string ⟨#[]⟩], .int .i64 (p : Nat), .bool false])) w' := by
  unfold PaQ
  rw [h]
theorem paQ_ok {l : List UInt8} {w' : World} {K B S st ra : Nat} {zs : List Int} {tu : List UInt8} {a : Option Addr} {n c : Nat} {v : Value} (h : ruleO l = .ok K B S st ra zs tu) (hv : v = .agg #[.int .i64 (K : Nat), .int .i64 (B : Nat), .int .i64 (S : Nat), .int .i64 (st : Nat), .int .i64 (ra : Nat), .slice a n c, .string ⟨tu.toArray⟩]) (hi : Ints.Is w' a n zs) : PaQ l (.returned (.tuple #[v, .int .i64 0, .bool true])) w' := by
  unfold PaQ
  rw [h]
  exact ⟨a, n, c, by rw [hv], hi⟩
set_option maxHeartbeats 16000000 in
set_option maxRecDepth 1000000 in
theorem rparse_B (s : ByteArray) (w : World) (hs : s.size ≤ 9223372036854775807) (hd : s.data.toList.head? = some 66) : Calls Tryd.prog 8 #[.string s] w fun e w' => PaQ s.data.toList e w' ∧ Below w.heap.size w w' := by
  have HSZ := Lib.hid hs
  clear hs
  go_enter Tryd.func8, Tryd.ntmps8
  go_upto_region 2 with fail
  obtain ⟨hr5, hr8, hb2⟩ := two_new w 24 24 (rbox 0 0 0 0 0 (.slice none 0 0) ⟨#[]⟩) (rbox 0 0 0 0 0 (.slice none 0 0) ⟨#[]⟩)
  have HR : Hid (Row ((w.alloc (.cells #[.int .i64 0, .int .i64 0, .int .i64 0, .int .i64 0, .int .i64 0, .slice none 0 0, .string ⟨#[]⟩] 24)).alloc (.cells #[.int .i64 0, .int .i64 0, .int .i64 0, .int .i64 0, .int .i64 0, .slice none 0 0, .string ⟨#[]⟩] 24)) w.heap.size 24 (rbox 0 0 0 0 0 (.slice none 0 0) ⟨#[]⟩)) := Lib.hid hr5
  have HQ : Hid (Row ((w.alloc (.cells #[.int .i64 0, .int .i64 0, .int .i64 0, .int .i64 0, .int .i64 0, .slice none 0 0, .string ⟨#[]⟩] 24)).alloc (.cells #[.int .i64 0, .int .i64 0, .int .i64 0, .int .i64 0, .int .i64 0, .slice none 0 0, .string ⟨#[]⟩] 24)) (w.heap.size + 1) 24 (rbox 0 0 0 0 0 (.slice none 0 0) ⟨#[]⟩)) := Lib.hid hr8
  have HB : Hid (Below w.heap.size w ((w.alloc (.cells #[.int .i64 0, .int .i64 0, .int .i64 0, .int .i64 0, .int .i64 0, .slice none 0 0, .string ⟨#[]⟩] 24)).alloc (.cells #[.int .i64 0, .int .i64 0, .int .i64 0, .int .i64 0, .int .i64 0, .slice none 0 0, .string ⟨#[]⟩] 24))) := Lib.hid hb2
  clear hr5 hr8 hb2
  generalize (w.alloc (.cells #[.int .i64 0, .int .i64 0, .int .i64 0, .int .i64 0, .int .i64 0, .slice none 0 0, .string ⟨#[]⟩] 24)).alloc (.cells #[.int .i64 0, .int .i64 0, .int .i64 0, .int .i64 0, .int .i64 0, .slice none 0 0, .string ⟨#[]⟩] 24) = w1 at *
  obtain ⟨rb, hrb⟩ : ∃ rb, rb = w.heap.size := ⟨_, rfl⟩
  rw [← hrb] at HR HQ ⊢
  obtain ⟨ob, hob⟩ : ∃ ob, ob = rb + 1 := ⟨_, rfl⟩
  rw [← hob] at HQ ⊢
  have HNE : Hid (w.heap.size ≤ rb ∧ ob ≠ rb ∧ w.heap.size ≤ ob) := Lib.hid (by omega)
  clear hrb hob
  have hs0 : ¬ s.size = 0 := by have h := head_lt hd; omega
  have hse := str_ne hs0
  have hk0 : 0 < s.size := by omega
  have hg := get_drop s hk0
  have HK0 := Lib.hid hk0
  clear hs0
  go_upto_region 5 with fail
  have hn3 := row_alloc w1 24 (rbox 0 0 0 0 0 (.slice none 0 0) ⟨#[]⟩)
  have hb3 : Below w1.heap.size w1 (w1.alloc (.cells (rbox 0 0 0 0 0 (.slice none 0 0) ⟨#[]⟩).toArray 24)) := (Below.refl _ _).alloc (Nat.le_refl _) _
  have HT : Hid (QSt w (w1.alloc (.cells #[.int .i64 0, .int .i64 0, .int .i64 0, .int .i64 0, .int .i64 0, .slice none 0 0, .string ⟨#[]⟩] 24)) ob rb w1.heap.size 0 0 0 0 0 ⟨#[]⟩ [] (.slice none 0 0)) := Lib.hid
    ⟨HQ.out.keep hb3 HQ.out.lt, HR.out.keep hb3 HR.out.lt, hn3, ⟨rfl, .inl ⟨rfl, rfl⟩⟩, HB.out.trans (hb3.mono HB.out.size), Nat.le_trans HB.out.size hb3.size, ⟨HNE.out.2.2, HNE.out.1, HB.out.size, HNE.out.2.1, Nat.ne_of_lt HQ.out.lt, Nat.ne_of_lt HR.out.lt⟩⟩
  clear hn3 hb3 HQ HR HB HNE
  obtain ⟨nb, hnb⟩ : ∃ nb, nb = w1.heap.size := ⟨_, rfl⟩
  rw [← hnb] at HT ⊢
  clear hnb
  generalize w1.alloc (.cells #[.int .i64 0, .int .i64 0, .int .i64 0, .int .i64 0, .int .i64 0, .slice none 0 0, .string ⟨#[]⟩] 24) = w2 at *
  have hd0 : s.data.toList.head? = some (s.data.toList.getD 0 0) := by
    rw [Lib.size_eq] at hk0
    rcases hl : s.data.toList with _ | ⟨x, l⟩
    · rw [hl] at hk0; exact absurd hk0 (by decide)
    · rfl
  obtain ⟨x0, hx0⟩ : ∃ x0, x0 = s.data.toList.getD 0 0 := ⟨_, rfl⟩
  rw [← hx0] at hg hd0
  have HD0 := Lib.hid hd0
  have HI : Hid (1 ≤ s.size) := Lib.hid hk0
  clear hx0 hd0
  go_upto_region 8 with fail
  clear hg hse hk0
  have hx : x0 = 66 := Option.some.inj (HD0.out.symm.trans hd)
  by_cases h66 : x0 = 66
  · have hq66 : ((x0.toNat : Int) == 66) = true := byte_eq (k := 66) (by decide) h66
    have HRO : Hid (ruleO s.data.toList = (riseR s.data.toList 1 0).on fun B i => wantO s.data.toList i 47 (wantO s.data.toList (i + 1) 83 ((riseR s.data.toList (i + 2) 0).on fun S j => endO s.data.toList j (.ok 1 B S 0 0 [] [])))) := Lib.hid (by unfold ruleO; rw [if_pos (by rw [HD0.out, h66])])
    clear h66 HD0
    go_upto_region 9 with fail
    clear hq66
    have z0 := HT.out.q.frozen 0
    have g0 := HT.out.q.cell 0
    unfold rbox at g0
    dsimp only [List.getElem?_cons_succ, List.getElem?_cons_zero] at g0
    go_upto_region 10 with fail
    clear z0 g0
    have HT := Lib.hid (HT.out.set0 (1))
    generalize w2.setCell ⟨ob, 0, none⟩ (.int .i64 (1)) = w3 at *
    go_wp2_with fail
    refine (rrising_any s (1) w3 HSZ.out HI.out).mono ?_
    rintro e4 w4 ⟨hrd, rfl⟩
    unfold RisQ at hrd
    cases hq : riseR s.data.toList (1) 0 with
    | bad p =>
      rw [hq] at hrd
      obtain ⟨nq, rfl⟩ := hrd
      have HBD := Lib.hid (HRO.out.trans (RN.on_bad hq))
      clear hq
      have l5 := row_range HT.out.z
      have hr5 := HT.out.r
      go_wp2_with (first | (refine wpList_load_mid rfl 24 _ rfl nb 0 rfl _ _ l5 Tryd.underlying24 rfl infoRul ?_) | (refine Ops.wpList_store_arr rfl 24 _ _ rfl rb rfl 24 _ (rbox 0 0 0 0 0 (.slice none 0 0) ⟨#[]⟩) rfl hr5 rfl infoRul (rbox_one _ _ _ _ _ _ _ _ _) ?_; intro w5 hr9 ho9))
      refine bodyPost_ret (results_rule3 (t := 2) (u := 3) (v := 4) (e := .int .i64 (((p : Nat) : Int))) (f := .bool false) rfl _ _ hr9 rfl rfl rfl rfl) rfl ⟨paQ_bad HBD.out, HT.out.bl.trans (ho9.below HT.out.ne.2.1)⟩
    | ok Bn i =>
      rw [hq] at hrd
      obtain ⟨rfl, hle⟩ := hrd
      have HRO := Lib.hid (HRO.out.trans (RN.on_ok hq))
      have HI := Lib.hid hle
      clear hq hle
      go_upto_region 11 with fail
      by_cases hwc : i < s.data.toList.length ∧ s.data.toList.getD (i) 0 = 47
      rotate_left
      · have HBD := Lib.hid (HRO.out.trans (wantO_bad hwc))
        by_cases hks : i < s.size
        · have hki : ¬ (s.size : Int) ≤ ((i : Nat) : Int) := by omega
          have hg := get_drop s hks
          obtain ⟨x, hx⟩ : ∃ x, x = s.data.toList.getD (i) 0 := ⟨_, rfl⟩
          rw [← hx] at hg hwc
          have hne : x ≠ UInt8.ofNat 47 := fun e => hwc ⟨by rw [← Lib.size_eq]; exact hks, e⟩
          have hq := byte_ne (k := 47) (by decide) hne
          have hq2 : ((x.toNat : Int) != 47) = true := congrArg not hq
          clear hx hwc hne
          have l5 := row_range HT.out.z
          have hr5 := HT.out.r
          go_wp2_with (first | (refine wpList_load_mid rfl 24 _ rfl nb 0 rfl _ _ l5 Tryd.underlying24 rfl infoRul ?_) | (refine Ops.wpList_store_arr rfl 24 _ _ rfl rb rfl 24 _ (rbox 0 0 0 0 0 (.slice none 0 0) ⟨#[]⟩) rfl hr5 rfl infoRul (rbox_one _ _ _ _ _ _ _ _ _) ?_; intro w5 hr9 ho9))
          refine bodyPost_ret (results_rule3 (t := 2) (u := 3) (v := 4) (e := .int .i64 (((i : Nat) : Int))) (f := .bool false) rfl _ _ hr9 rfl rfl rfl rfl) rfl ⟨paQ_bad HBD.out, HT.out.bl.trans (ho9.below HT.out.ne.2.1)⟩
        · have hki : (s.size : Int) ≤ ((i : Nat) : Int) := by omega
          clear hwc hks
          have l5 := row_range HT.out.z
          have hr5 := HT.out.r
          go_wp2_with (first | (refine wpList_load_mid rfl 24 _ rfl nb 0 rfl _ _ l5 Tryd.underlying24 rfl infoRul ?_) | (refine Ops.wpList_store_arr rfl 24 _ _ rfl rb rfl 24 _ (rbox 0 0 0 0 0 (.slice none 0 0) ⟨#[]⟩) rfl hr5 rfl infoRul (rbox_one _ _ _ _ _ _ _ _ _) ?_; intro w5 hr9 ho9))
          refine bodyPost_ret (results_rule3 (t := 2) (u := 3) (v := 4) (e := .int .i64 (((i : Nat) : Int))) (f := .bool false) rfl _ _ hr9 rfl rfl rfl rfl) rfl ⟨paQ_bad HBD.out, HT.out.bl.trans (ho9.below HT.out.ne.2.1)⟩
      have hks : i < s.size := by rw [Lib.size_eq]; exact hwc.1
      have hki : ¬ (s.size : Int) ≤ ((i : Nat) : Int) := by omega
      have hg := get_drop s hks
      rw [hwc.2] at hg
      have HRO := Lib.hid (HRO.out.trans (wantO_ok hwc))
      have HKS := Lib.hid hks
      clear hwc
      go_upto_region 13 with fail
      clear hki hg hks
      have z1 := HT.out.q.frozen 1
      have g1 := HT.out.q.cell 1
      unfold rbox at g1
      dsimp only [List.getElem?_cons_succ, List.getElem?_cons_zero] at g1
      go_upto_region 14 with fail
      clear z1 g1
      have HT := Lib.hid (HT.out.set1 (((Bn : Nat) : Int)))
      generalize w4.setCell ⟨ob, 1, none⟩ (.int .i64 (((Bn : Nat) : Int))) = w5 at *
      have HI : Hid (i + 1 ≤ s.size) := Lib.hid HKS.out
      obtain ⟨i2, hi2⟩ : ∃ i2, i2 = i + 1 := ⟨_, rfl⟩
      have Ei2 : Hid (wrap64 (((i : Nat) : Int) + 1) = ((i2 : Nat) : Int)) := Lib.hid (wr48b (by rw [hi2]; push_cast; rfl) (by have := HSZ.out; have := HI.out; omega))
      rw [← hi2] at HI HRO
      clear HKS
      have HKEi2 := Lib.hid hi2
      clear hi2
      have ei2 := Ei2.out
      go_upto_region 15 with fail
      try rw [ei2]
      clear ei2
      by_cases hwc : i2 < s.data.toList.length ∧ s.data.toList.getD (i2) 0 = 83
      rotate_left
      · have HBD := Lib.hid (HRO.out.trans (wantO_bad hwc))
        by_cases hks : i2 < s.size
        · have hki : ¬ (s.size : Int) ≤ ((i2 : Nat) : Int) := by omega
          have hg := get_drop s hks
          obtain ⟨x, hx⟩ : ∃ x, x = s.data.toList.getD (i2) 0 := ⟨_, rfl⟩
          rw [← hx] at hg hwc
          have hne : x ≠ UInt8.ofNat 83 := fun e => hwc ⟨by rw [← Lib.size_eq]; exact hks, e⟩
          have hq := byte_ne (k := 83) (by decide) hne
          have hq2 : ((x.toNat : Int) != 83) = true := congrArg not hq
          clear hx hwc hne
          have l5 := row_range HT.out.z
          have hr5 := HT.out.r
          go_wp2_with (first | (refine wpList_load_mid rfl 24 _ rfl nb 0 rfl _ _ l5 Tryd.underlying24 rfl infoRul ?_) | (refine Ops.wpList_store_arr rfl 24 _ _ rfl rb rfl 24 _ (rbox 0 0 0 0 0 (.slice none 0 0) ⟨#[]⟩) rfl hr5 rfl infoRul (rbox_one _ _ _ _ _ _ _ _ _) ?_; intro w5 hr9 ho9))
          refine bodyPost_ret (results_rule3 (t := 2) (u := 3) (v := 4) (e := .int .i64 (((i2 : Nat) : Int))) (f := .bool false) rfl _ _ hr9 rfl rfl rfl rfl) rfl ⟨paQ_bad HBD.out, HT.out.bl.trans (ho9.below HT.out.ne.2.1)⟩
        · have hki : (s.size : Int) ≤ ((i2 : Nat) : Int) := by omega
          clear hwc hks
          have l5 := row_range HT.out.z
          have hr5 := HT.out.r
          go_wp2_with (first | (refine wpList_load_mid rfl 24 _ rfl nb 0 rfl _ _ l5 Tryd.underlying24 rfl infoRul ?_) | (refine Ops.wpList_store_arr rfl 24 _ _ rfl rb rfl 24 _ (rbox 0 0 0 0 0 (.slice none 0 0) ⟨#[]⟩) rfl hr5 rfl infoRul (rbox_one _ _ _ _ _ _ _ _ _) ?_; intro w5 hr9 ho9))
          refine bodyPost_ret (results_rule3 (t := 2) (u := 3) (v := 4) (e := .int .i64 (((i2 : Nat) : Int))) (f := .bool false) rfl _ _ hr9 rfl rfl rfl rfl) rfl ⟨paQ_bad HBD.out, HT.out.bl.trans (ho9.below HT.out.ne.2.1)⟩
      have hks : i2 < s.size := by rw [Lib.size_eq]; exact hwc.1
      have hki : ¬ (s.size : Int) ≤ ((i2 : Nat) : Int) := by omega
      have hg := get_drop s hks
      rw [hwc.2] at hg
      have HRO := Lib.hid (HRO.out.trans (wantO_ok hwc))
      have HKS := Lib.hid hks
      clear hwc
      go_upto_region 17 with fail
      clear hki hg hks
      have HRO : Hid (ruleO s.data.toList = (riseR s.data.toList (i2 + 1) 0).on fun S j => endO s.data.toList j (.ok 1 Bn S 0 0 [] [])) := Lib.hid (by rw [HRO.out, HKEi2.out])
      have HI : Hid (i2 + 1 ≤ s.size) := Lib.hid HKS.out
      obtain ⟨i3, hi3⟩ : ∃ i3, i3 = i2 + 1 := ⟨_, rfl⟩
      have Ei3 : Hid (wrap64 (((i2 : Nat) : Int) + 1) = ((i3 : Nat) : Int)) := Lib.hid (wr48b (by rw [hi3]; push_cast; rfl) (by have := HSZ.out; have := HI.out; omega))
      rw [← hi3] at HI HRO
      clear HKS
      have HKEi3 := Lib.hid hi3
      clear hi3
      have ei3 := Ei3.out
      go_wp2_with fail
      try rw [ei3]
      refine (rrising_any s (i3) w5 HSZ.out HI.out).mono ?_
      rintro e6 w6 ⟨hrd, rfl⟩
      unfold RisQ at hrd
      cases hq : riseR s.data.toList (i3) 0 with
      | bad p =>
        rw [hq] at hrd
        obtain ⟨nq, rfl⟩ := hrd
        have HBD := Lib.hid (HRO.out.trans (RN.on_bad hq))
        clear hq
        have l5 := row_range HT.out.z
        have hr5 := HT.out.r
        go_wp2_with (first | (refine wpList_load_mid rfl 24 _ rfl nb 0 rfl _ _ l5 Tryd.underlying24 rfl infoRul ?_) | (refine Ops.wpList_store_arr rfl 24 _ _ rfl rb rfl 24 _ (rbox 0 0 0 0 0 (.slice none 0 0) ⟨#[]⟩) rfl hr5 rfl infoRul (rbox_one _ _ _ _ _ _ _ _ _) ?_; intro w5 hr9 ho9))
        try rw [ei3]
        refine bodyPost_ret (results_rule3 (t := 2) (u := 3) (v := 4) (e := .int .i64 (((p : Nat) : Int))) (f := .bool false) rfl _ _ hr9 rfl rfl rfl rfl) rfl ⟨paQ_bad HBD.out, HT.out.bl.trans (ho9.below HT.out.ne.2.1)⟩
      | ok Sn j =>
        rw [hq] at hrd
        obtain ⟨rfl, hle⟩ := hrd
        have HRO := Lib.hid (HRO.out.trans (RN.on_ok hq))
        have HI := Lib.hid hle
        clear hq hle
        go_upto_region 18 with fail
        clear ei3
        go_upto_region 20 with fail
        have z2 := HT.out.q.frozen 2
        have g2 := HT.out.q.cell 2
        unfold rbox at g2
        dsimp only [List.getElem?_cons_succ, List.getElem?_cons_zero] at g2
        go_upto_region 21 with fail
        clear z2 g2
        have HT := Lib.hid (HT.out.set2 (((Sn : Nat) : Int)))
        generalize w6.setCell ⟨ob, 2, none⟩ (.int .i64 (((Sn : Nat) : Int))) = w7 at *
        go_upto_region 72 with fail
        by_cases hlt : j < s.size
        · have hli : ((j : Nat) : Int) < (s.size : Int) := by omega
          have HBD := Lib.hid (HRO.out.trans (endO_bad hlt))
          clear hlt
          have l5 := row_range HT.out.z
          have hr5 := HT.out.r
          go_wp2_with (first | (refine wpList_load_mid rfl 24 _ rfl nb 0 rfl _ _ l5 Tryd.underlying24 rfl infoRul ?_) | (refine Ops.wpList_store_arr rfl 24 _ _ rfl rb rfl 24 _ (rbox 0 0 0 0 0 (.slice none 0 0) ⟨#[]⟩) rfl hr5 rfl infoRul (rbox_one _ _ _ _ _ _ _ _ _) ?_; intro w5 hr9 ho9))
          refine bodyPost_ret (results_rule3 (t := 2) (u := 3) (v := 4) (e := .int .i64 (((j : Nat) : Int))) (f := .bool false) rfl _ _ hr9 rfl rfl rfl rfl) rfl ⟨paQ_bad HBD.out, HT.out.bl.trans (ho9.below HT.out.ne.2.1)⟩
        have hli : ¬ ((j : Nat) : Int) < (s.size : Int) := by omega
        have HRO := Lib.hid (HRO.out.trans (endO_ok hlt))
        clear hlt
        have HQ := Lib.hid HT.out.q
        have HR2 := Lib.hid HT.out.r
        have HOW := Lib.hid HT.out.o
        have HNE := Lib.hid HT.out.ne
        have HBL2 := Lib.hid HT.out.bl
        clear HT
        obtain ⟨av, cv, hve, _⟩ := own_is HOW.out
        try subst hve
        have l5 := row_range HQ.out
        have hr5 := HR2.out
        go_wp2_with (first | (refine wpList_load_mid rfl 24 _ rfl ob 0 rfl _ _ l5 Tryd.underlying24 rfl infoRul ?_) | (refine Ops.wpList_store_arr rfl 24 _ _ rfl rb rfl 24 _ _ rfl hr5 rfl infoRul (rbox_one _ _ _ _ _ _ _ _ _) ?_; intro w5 hr9 ho9))
        refine bodyPost_ret (results_rule3 (t := 2) (u := 3) (v := 4) (e := .int .i64 0) (f := .bool true) rfl _ _ hr9 rfl rfl rfl rfl) rfl ⟨paQ_ok HRO.out rfl ?_, HBL2.out.trans (ho9.below HNE.out.2.1)⟩
        obtain ⟨_, _, hve2, _, _, his, _⟩ := own_is (own_only HOW.out ho9 (own_ne HOW.out HR2.out (by decide)))
        cases hve2
        exact his
  exact absurd hx h66
set_option maxHeartbeats 16000000 in
set_option maxRecDepth 1000000 in
theorem rparse_W (s : ByteArray) (w : World) (hs : s.size ≤ 9223372036854775807) (hd : s.data.toList.head? = some 87) : Calls Tryd.prog 8 #[.string s] w fun e w' => PaQ s.data.toList e w' ∧ Below w.heap.size w w' := by
  have HSZ := Lib.hid hs
  clear hs
  go_enter Tryd.func8, Tryd.ntmps8
  go_upto_region 2 with fail
  obtain ⟨hr5, hr8, hb2⟩ := two_new w 24 24 (rbox 0 0 0 0 0 (.slice none 0 0) ⟨#[]⟩) (rbox 0 0 0 0 0 (.slice none 0 0) ⟨#[]⟩)
  have HR : Hid (Row ((w.alloc (.cells #[.int .i64 0, .int .i64 0, .int .i64 0, .int .i64 0, .int .i64 0, .slice none 0 0, .string ⟨#[]⟩] 24)).alloc (.cells #[.int .i64 0, .int .i64 0, .int .i64 0, .int .i64 0, .int .i64 0, .slice none 0 0, .string ⟨#[]⟩] 24)) w.heap.size 24 (rbox 0 0 0 0 0 (.slice none 0 0) ⟨#[]⟩)) := Lib.hid hr5
  have HQ : Hid (Row ((w.alloc (.cells #[.int .i64 0, .int .i64 0, .int .i64 0, .int .i64 0, .int .i64 0, .slice none 0 0, .string ⟨#[]⟩] 24)).alloc (.cells #[.int .i64 0, .int .i64 0, .int .i64 0, .int .i64 0, .int .i64 0, .slice none 0 0, .string ⟨#[]⟩] 24)) (w.heap.size + 1) 24 (rbox 0 0 0 0 0 (.slice none 0 0) ⟨#[]⟩)) := Lib.hid hr8
  have HB : Hid (Below w.heap.size w ((w.alloc (.cells #[.int .i64 0, .int .i64 0, .int .i64 0, .int .i64 0, .int .i64 0, .slice none 0 0, .string ⟨#[]⟩] 24)).alloc (.cells #[.int .i64 0, .int .i64 0, .int .i64 0, .int .i64 0, .int .i64 0, .slice none 0 0, .string ⟨#[]⟩] 24))) := Lib.hid hb2
  clear hr5 hr8 hb2
  generalize (w.alloc (.cells #[.int .i64 0, .int .i64 0, .int .i64 0, .int .i64 0, .int .i64 0, .slice none 0 0, .string ⟨#[]⟩] 24)).alloc (.cells #[.int .i64 0, .int .i64 0, .int .i64 0, .int .i64 0, .int .i64 0, .slice none 0 0, .string ⟨#[]⟩] 24) = w1 at *
  obtain ⟨rb, hrb⟩ : ∃ rb, rb = w.heap.size := ⟨_, rfl⟩
  rw [← hrb] at HR HQ ⊢
  obtain ⟨ob, hob⟩ : ∃ ob, ob = rb + 1 := ⟨_, rfl⟩
  rw [← hob] at HQ ⊢
  have HNE : Hid (w.heap.size ≤ rb ∧ ob ≠ rb ∧ w.heap.size ≤ ob) := Lib.hid (by omega)
  clear hrb hob
  have hs0 : ¬ s.size = 0 := by have h := head_lt hd; omega
  have hse := str_ne hs0
  have hk0 : 0 < s.size := by omega
  have hg := get_drop s hk0
  have HK0 := Lib.hid hk0
  clear hs0
  go_upto_region 5 with fail
  have hn3 := row_alloc w1 24 (rbox 0 0 0 0 0 (.slice none 0 0) ⟨#[]⟩)
  have hb3 : Below w1.heap.size w1 (w1.alloc (.cells (rbox 0 0 0 0 0 (.slice none 0 0) ⟨#[]⟩).toArray 24)) := (Below.refl _ _).alloc (Nat.le_refl _) _
  have HT : Hid (QSt w (w1.alloc (.cells #[.int .i64 0, .int .i64 0, .int .i64 0, .int .i64 0, .int .i64 0, .slice none 0 0, .string ⟨#[]⟩] 24)) ob rb w1.heap.size 0 0 0 0 0 ⟨#[]⟩ [] (.slice none 0 0)) := Lib.hid
    ⟨HQ.out.keep hb3 HQ.out.lt, HR.out.keep hb3 HR.out.lt, hn3, ⟨rfl, .inl ⟨rfl, rfl⟩⟩, HB.out.trans (hb3.mono HB.out.size), Nat.le_trans HB.out.size hb3.size, ⟨HNE.out.2.2, HNE.out.1, HB.out.size, HNE.out.2.1, Nat.ne_of_lt HQ.out.lt, Nat.ne_of_lt HR.out.lt⟩⟩
  clear hn3 hb3 HQ HR HB HNE
  obtain ⟨nb, hnb⟩ : ∃ nb, nb = w1.heap.size := ⟨_, rfl⟩
  rw [← hnb] at HT ⊢
  clear hnb
  generalize w1.alloc (.cells #[.int .i64 0, .int .i64 0, .int .i64 0, .int .i64 0, .int .i64 0, .slice none 0 0, .string ⟨#[]⟩] 24) = w2 at *
  have hd0 : s.data.toList.head? = some (s.data.toList.getD 0 0) := by
    rw [Lib.size_eq] at hk0
    rcases hl : s.data.toList with _ | ⟨x, l⟩
    · rw [hl] at hk0; exact absurd hk0 (by decide)
    · rfl
  obtain ⟨x0, hx0⟩ : ∃ x0, x0 = s.data.toList.getD 0 0 := ⟨_, rfl⟩
  rw [← hx0] at hg hd0
  have HD0 := Lib.hid hd0
  have HI : Hid (1 ≤ s.size) := Lib.hid hk0
  clear hx0 hd0
  go_upto_region 8 with fail
  clear hg hse hk0
  have hx : x0 = 87 := Option.some.inj (HD0.out.symm.trans hd)
  have h66 : ¬ x0 = 66 := by rw [hx]; decide
  have hq66 : ((x0.toNat : Int) == 66) = false := byte_ne (k := 66) (by decide) h66
  go_upto_region 22 with fail
  clear hq66
  by_cases h87 : x0 = 87
  · have hq87 : ((x0.toNat : Int) == 87) = true := byte_eq (k := 87) (by decide) h87
    have HRO : Hid (ruleO s.data.toList = (numO s.data.toList 1 0 255).on fun n i => endO s.data.toList i (.ok 2 0 0 2 1 (bitsL n 8) [])) := Lib.hid (by unfold ruleO; rw [if_neg (by rw [HD0.out]; intro h; exact h66 (Option.some.inj h)), if_pos (by rw [HD0.out, h87])])
    clear h66 h87 HD0
    go_upto_region 23 with fail
    clear hq87
    go_wp2_with fail
    have hdl := digs_le s (1) HI.out
    refine (Number_any s (1) w2 (by have := HSZ.out; omega) HI.out).mono ?_
    rintro e3 w3 ⟨rfl, rfl⟩
    have HNO : Hid (numO s.data.toList (1) 0 255 = if num (digs s (1)) < 0 ∨ 255 < num (digs s (1)) then .bad (1) else .ok (num (digs s (1))).toNat ((1) + (digs s (1)).length)) := Lib.hid rfl
    generalize num (digs s (1)) = m at *
    generalize (digs s (1)).length = Ln at *
    obtain ⟨i, hi⟩ : ∃ i, i = (1) + Ln := ⟨_, rfl⟩
    rw [← hi] at HNO hdl ⊢
    clear hi
    by_cases hm : m < 0 ∨ 255 < m
    · have HBD := Lib.hid (HRO.out.trans (RN.on_bad (HNO.out.trans (if_pos hm))))
      rcases hm with hm | hm
      · skip

        have l5 := row_range HT.out.z
        have hr5 := HT.out.r
        go_wp2_with (first | (refine wpList_load_mid rfl 24 _ rfl nb 0 rfl _ _ l5 Tryd.underlying24 rfl infoRul ?_) | (refine Ops.wpList_store_arr rfl 24 _ _ rfl rb rfl 24 _ (rbox 0 0 0 0 0 (.slice none 0 0) ⟨#[]⟩) rfl hr5 rfl infoRul (rbox_one _ _ _ _ _ _ _ _ _) ?_; intro w5 hr9 ho9))
        refine bodyPost_ret (results_rule3 (t := 2) (u := 3) (v := 4) (e := .int .i64 (((1 : Nat) : Int))) (f := .bool false) rfl _ _ hr9 rfl rfl rfl rfl) rfl ⟨paQ_bad HBD.out, HT.out.bl.trans (ho9.below HT.out.ne.2.1)⟩
      · skip
        have hm2 : ¬ m < 0 := by omega

        have l5 := row_range HT.out.z
        have hr5 := HT.out.r
        go_wp2_with (first | (refine wpList_load_mid rfl 24 _ rfl nb 0 rfl _ _ l5 Tryd.underlying24 rfl infoRul ?_) | (refine Ops.wpList_store_arr rfl 24 _ _ rfl rb rfl 24 _ (rbox 0 0 0 0 0 (.slice none 0 0) ⟨#[]⟩) rfl hr5 rfl infoRul (rbox_one _ _ _ _ _ _ _ _ _) ?_; intro w5 hr9 ho9))
        refine bodyPost_ret (results_rule3 (t := 2) (u := 3) (v := 4) (e := .int .i64 (((1 : Nat) : Int))) (f := .bool false) rfl _ _ hr9 rfl rfl rfl rfl) rfl ⟨paQ_bad HBD.out, HT.out.bl.trans (ho9.below HT.out.ne.2.1)⟩
    have hm1 : ¬ m < 0 := fun h => hm (.inl h)
    have hm2 : ¬ 255 < m := fun h => hm (.inr h)
    obtain ⟨n, rfl⟩ : ∃ n : Nat, m = (n : Nat) := ⟨m.toNat, by omega⟩
    have HRO := Lib.hid (HRO.out.trans (RN.on_ok (HNO.out.trans (if_neg hm))))
    rw [Int.toNat_natCast] at HRO
    have HBn : Hid (0 ≤ (n : Int) ∧ (n : Int) ≤ 255) := Lib.hid (by omega)
    have HI := Lib.hid hdl
    clear hm hdl HNO
    go_upto_region 26 with fail
    clear hm1 hm2
    have z0 := HT.out.q.frozen 0
    have g0 := HT.out.q.cell 0
    unfold rbox at g0
    dsimp only [List.getElem?_cons_succ, List.getElem?_cons_zero] at g0
    go_upto_region 27 with fail
    clear z0 g0
    have HT := Lib.hid (HT.out.set0 (2))
    generalize w3.setCell ⟨ob, 0, none⟩ (.int .i64 (2)) = w4 at *
    have z3 := HT.out.q.frozen 3
    have g3 := HT.out.q.cell 3
    unfold rbox at g3
    dsimp only [List.getElem?_cons_succ, List.getElem?_cons_zero] at g3
    go_upto_region 28 with fail
    clear z3 g3
    have HT := Lib.hid (HT.out.set3 (2))
    generalize w4.setCell ⟨ob, 3, none⟩ (.int .i64 (2)) = w5 at *
    have z4 := HT.out.q.frozen 4
    have g4 := HT.out.q.cell 4
    unfold rbox at g4
    dsimp only [List.getElem?_cons_succ, List.getElem?_cons_zero] at g4
    go_upto_region 29 with fail
    clear z4 g4
    have HT := Lib.hid (HT.out.set4 (1))
    generalize w5.setCell ⟨ob, 4, none⟩ (.int .i64 (1)) = w6 at *
    go_upto_block 1 with fail
    apply rq_bits (w0 := w) (ob := ob) (rb := rb) (nb := nb) (n := n) (K := 2) (Bo := 0) (S := 0) (st := 2) (ra := 1) (tu := ⟨#[]⟩) (vs0 := .slice none 0 0)
    case hn => have := HBn.out; omega
    case hT => exact HT.out
    case hnext =>
    intro u11 u102 u103 u104 u105 u106 u107 u108 u109 u110 u111 u112 u113 u114 w7 hE
    clear HT
    obtain ⟨vs8, ht8⟩ := hE
    have HT := Lib.hid ht8
    clear ht8
    go_upto_region 72 with fail
    by_cases hlt : i < s.size
    · have hli : ((i : Nat) : Int) < (s.size : Int) := by omega
      have HBD := Lib.hid (HRO.out.trans (endO_bad hlt))
      clear hlt
      have l5 := row_range HT.out.z
      have hr5 := HT.out.r
      go_wp2_with (first | (refine wpList_load_mid rfl 24 _ rfl nb 0 rfl _ _ l5 Tryd.underlying24 rfl infoRul ?_) | (refine Ops.wpList_store_arr rfl 24 _ _ rfl rb rfl 24 _ (rbox 0 0 0 0 0 (.slice none 0 0) ⟨#[]⟩) rfl hr5 rfl infoRul (rbox_one _ _ _ _ _ _ _ _ _) ?_; intro w5 hr9 ho9))
      refine bodyPost_ret (results_rule3 (t := 2) (u := 3) (v := 4) (e := .int .i64 (((i : Nat) : Int))) (f := .bool false) rfl _ _ hr9 rfl rfl rfl rfl) rfl ⟨paQ_bad HBD.out, HT.out.bl.trans (ho9.below HT.out.ne.2.1)⟩
    have hli : ¬ ((i : Nat) : Int) < (s.size : Int) := by omega
    have HRO := Lib.hid (HRO.out.trans (endO_ok hlt))
    clear hlt
    have HQ := Lib.hid HT.out.q
    have HR2 := Lib.hid HT.out.r
    have HOW := Lib.hid HT.out.o
    have HNE := Lib.hid HT.out.ne
    have HBL2 := Lib.hid HT.out.bl
    clear HT
    obtain ⟨av, cv, hve, _⟩ := own_is HOW.out
    try subst hve
    have l5 := row_range HQ.out
    have hr5 := HR2.out
    go_wp2_with (first | (refine wpList_load_mid rfl 24 _ rfl ob 0 rfl _ _ l5 Tryd.underlying24 rfl infoRul ?_) | (refine Ops.wpList_store_arr rfl 24 _ _ rfl rb rfl 24 _ _ rfl hr5 rfl infoRul (rbox_one _ _ _ _ _ _ _ _ _) ?_; intro w5 hr9 ho9))
    refine bodyPost_ret (results_rule3 (t := 2) (u := 3) (v := 4) (e := .int .i64 0) (f := .bool true) rfl _ _ hr9 rfl rfl rfl rfl) rfl ⟨paQ_ok HRO.out rfl ?_, HBL2.out.trans (ho9.below HNE.out.2.1)⟩
    obtain ⟨_, _, hve2, _, _, his, _⟩ := own_is (own_only HOW.out ho9 (own_ne HOW.out HR2.out (by decide)))
    cases hve2
    exact his
  exact absurd hx h87
end Pr
end Go.Proofs.YtgagophijmiceaaDoor
